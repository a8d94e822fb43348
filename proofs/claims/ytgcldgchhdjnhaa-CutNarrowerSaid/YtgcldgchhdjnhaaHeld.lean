/-
  The statement CutHeld holds: the tickets of windows in a truth are within their span; each whole number of it is had in some truth, none beyond; for every hall and any numbers that are handed in. No condition.
-/
import Derived.Test.YtgcldgchhdjnhaaLawG
import Derived.Test.YtgcldgchhdjnhaaJoined
import Derived.Test.YtgcldgchhdjnhaaWayCR
namespace Go.Proofs.Ytgcldgchhdjnhaa
open Go.RowKit Go.Shelf
/-- with one more counter the others agree just if its bounds meet the span -/
theorem agr_withM {h : Hall} (v : Valid h) (g : Agr h) (hl : h.cs.length < 10) {a b : Nat} {lo hi : Int} (ha : a ≤ b) (hb : (b : Int) < h.n) (h0 : 0 ≤ lo) (h1 : lo ≤ hi) (h2 : hi ≤ 10000000) :
    Valid (withH h ⟨a, b, lo, hi⟩) ∧ (leastM (withH h ⟨a, b, lo, hi⟩) 0).2 = (decide (lo ≤ ds h a (b + 1)) && decide (-(ds h (b + 1) a) ≤ hi)) := by
  have vv := with_valid v hl (c := ⟨a, b, lo, hi⟩) ⟨by simp only; omega, by simp only; omega, hb, h0, h1, h2⟩
  refine ⟨vv, ?_⟩
  have e := agr_iff vv
  have e2 := agr_with v g (a := a) (b := b) (lo := lo) (hi := hi) (by omega) hb
  cases hh : (leastM (withH h ⟨a, b, lo, hi⟩) 0).2 with
  | true =>
    have := e2.1 (e.1 hh)
    symm
    simp; omega
  | false =>
    symm
    rw [Bool.and_eq_false_iff]
    by_cases q1 : lo ≤ ds h a (b + 1)
    · by_cases q2 : -(ds h (b + 1) a) ≤ hi
      · have := e.2 (e2.2 ⟨q1, q2, h1⟩)
        rw [this] at hh; cases hh
      · right; simpa using q2
    · left; simpa using q1
/-- within the span -/
theorem truth_span {h : Hall} (v : Valid h) (g : Agr h) {t : List Int} (it : IsTruth h t) {a b : Nat} (ha : a ≤ b) (hb : (b : Int) < h.n) : -(ds h (b + 1) a) ≤ sm t a b ∧ sm t a b ≤ ds h a (b + 1) := by
  have p := pot_of_truth v it
  have h1 := ds_le v g p (a := a) (b := b + 1) (by omega) (by omega)
  have h2 := ds_le v g p (a := b + 1) (b := a) (by omega) (by omega)
  rw [sm_pre (by omega) (by omega)]
  simp only [Int.toNat_natCast]
  rw [show ((b : Int) + 1).toNat = b + 1 by omega]
  omega
set_option maxRecDepth 100000 in
set_option maxHeartbeats 4000000 in
theorem cutHeld_any (h : Hall) (sv tv : Value) (t : List Int) (f to at_ : Int) (w : World) (hs : IsCnts w sv h.cs) (ht : IsInts w .i64 tv t) (wf : (Lit.int .u8 f).wf = true) (wt : (Lit.int .u8 to).wf = true) (wa : (Lit.int .u32 at_).wf = true) :
    Calls Try.prog 9 #[.agg #[.int .i64 h.n, .int .i64 h.most, sv], tv, .int .u8 f, .int .u8 to, .int .u32 at_] w fun e w' => e = .returned (.bool true) ∧ Ext w w' := by
  obtain ⟨sa, cap, rfl, hl1, hl2, -⟩ := hs.spec
  obtain ⟨ta, tcap, rfl, hm1, hm2, -⟩ := ht.spec
  obtain ⟨f0, f1⟩ := bounds_u8 wf
  obtain ⟨t0, t1⟩ := bounds_u8 wt
  obtain ⟨a0, a1⟩ := bounds_u32 wa
  have HS0 := Lib.hid hs
  have HT0 := Lib.hid ht
  clear hs ht wf wt wa
  go_enter Try.func9, Try.ntmps9
  go_upto_region 1 with (fail)
  obtain ⟨W0, hW0⟩ : ∃ W0, W0 = w.alloc (.cells #[.int .i64 h.n, .int .i64 h.most, .slice sa h.cs.length cap] 24) := ⟨_, rfl⟩
  have hE : Ext w W0 := by rw [hW0]; exact (by repeat (first | exact Below.refl _ _ | refine Ext.al ?_ _ | refine Ext.dr ?_ | refine Ext.drN ?_ _ | refine Ext.gr ?_ _ | refine Ext.set ?_ (by simp) _ | (refine Ext.trans' ?_ (by assumption))))
  have k0 : W0.cell? ⟨w.heap.size, 0, none⟩ = some (.int .i64 h.n) := by rw [hW0]; simp [go_sem]
  have k1 : W0.cell? ⟨w.heap.size, 1, none⟩ = some (.int .i64 h.most) := by rw [hW0]; simp [go_sem]
  have k2 : W0.cell? ⟨w.heap.size, 2, none⟩ = some (.slice sa h.cs.length cap) := by rw [hW0]; simp [go_sem]
  have hz : w.heap.size < W0.heap.size := World.block_lt_of_cell? _ _ k0
  have HS := Lib.hid (HS0.out.ext hE)
  have HW := Lib.hid hE
  rw [← hW0]
  clear hW0 HS0
  have HT := Lib.hid (HT0.out.ext hE)
  clear hE HT0


  go_wp2_with fail
  refine callW (W0 := W0) (g := ⟨W0, Below.refl _ _⟩) (by exact (by repeat (first | exact Below.refl _ _ | refine Ext.al ?_ _ | refine Ext.dr ?_ | refine Ext.drN ?_ _ | refine Ext.gr ?_ _ | refine Ext.set ?_ (by simp) _ | (refine Ext.trans' ?_ (by assumption))))) (fine_any h _ _ (HS.out.ext (by exact (by repeat (first | exact Below.refl _ _ | refine Ext.al ?_ _ | refine Ext.dr ?_ | refine Ext.drN ?_ _ | refine Ext.gr ?_ _ | refine Ext.set ?_ (by simp) _ | (refine Ext.trans' ?_ (by assumption))))))) fun g1 hgr => ?_
  clear hgr
  by_cases hc : chk h = 0
  rotate_left
  · rw [show (chk h == 0) = false by simpa using hc]
    clear hc

    go_wp2_with fail
    refine callW (W0 := W0) (g := g1) (by exact (by repeat (first | exact Below.refl _ _ | refine Ext.al ?_ _ | refine Ext.dr ?_ | refine Ext.drN ?_ _ | refine Ext.gr ?_ _ | refine Ext.set ?_ (by simp) _ | (refine Ext.trans' ?_ (by assumption))))) (works_any _) fun g2 hgr => ?_
    clear hgr
    go_wp2_with fail
    go_ret
    exact ⟨rfl, HW.out.trans' (grow_below W0 g2)⟩

  rw [show (chk h == 0) = true by simpa using hc]
  by_cases h30 : 30 < t.length
  · have h30' : decide ((30 : Int) < (t.length : Int)) = true := decide_eq_true (by omega)
    clear h30 hc

    go_wp2_with fail
    refine callW (W0 := W0) (g := g1) (by exact (by repeat (first | exact Below.refl _ _ | refine Ext.al ?_ _ | refine Ext.dr ?_ | refine Ext.drN ?_ _ | refine Ext.gr ?_ _ | refine Ext.set ?_ (by simp) _ | (refine Ext.trans' ?_ (by assumption))))) (works_any _) fun g3 hgr => ?_
    clear hgr
    go_wp2_with fail
    go_ret
    exact ⟨rfl, HW.out.trans' (grow_below W0 g3)⟩

  have h30' : decide ((30 : Int) < (t.length : Int)) = false := decide_eq_false (by omega)
  by_cases hlen : h.cs.length < 10
  rotate_left
  · have hl' : decide ((10 : Int) ≤ (h.cs.length : Int)) = true := decide_eq_true (by omega)
    clear hlen h30 hc

    go_wp2_with fail
    refine callW (W0 := W0) (g := g1) (by exact (by repeat (first | exact Below.refl _ _ | refine Ext.al ?_ _ | refine Ext.dr ?_ | refine Ext.drN ?_ _ | refine Ext.gr ?_ _ | refine Ext.set ?_ (by simp) _ | (refine Ext.trans' ?_ (by assumption))))) (works_any _) fun g4 hgr => ?_
    clear hgr
    go_wp2_with fail
    go_ret
    exact ⟨rfl, HW.out.trans' (grow_below W0 g4)⟩

  have hl' : decide ((10 : Int) ≤ (h.cs.length : Int)) = false := decide_eq_false (by omega)
  have V := Lib.hid (valid_of_chk hc)
  have n1 := V.out.n1
  have n10 := V.out.n10
  have m0 := V.out.m0
  have m1 := V.out.m1
  have HC := Lib.hid hc
  have H30 := Lib.hid h30
  clear hc h30
  obtain ⟨A, hA, hAn⟩ := modN f0 n1
  obtain ⟨T, hT, hTn⟩ := modN (n := h.n - A) t0 (by omega)
  obtain ⟨B, hB⟩ : ∃ B : Nat, (A : Int) + T = B := ⟨A + T, by omega⟩
  have hAB : A ≤ B := by omega
  have hBn : (B : Int) < h.n := by omega
  go_upto_region 5 with (fail)
  simp only [hA, hT]
  clear hA hT hB f0 f1 t0 t1
  have d1 := fun w hs => span_any h (.slice sa h.cs.length cap) (A : Int) (B : Int) w hs
  have d2 := fun w hs ht => checkTruthR_any h (.slice sa h.cs.length cap) (.slice ta t.length tcap) t w hs ht
  cases hag : (leastM h 0).2
  · obtain ⟨q1, q2, q3⟩ := span_not V.out hag (a := A) (b := B) (by omega) (by omega)
    rw [q1, q2, q3] at d1
    have hd := truthE_not HC.out hag t
    obtain ⟨d, hd0⟩ : ∃ d, d = truthE h t := ⟨_, rfl⟩
    rw [← hd0] at d2 hd
    have hd' : (d == 0) = false := by simpa using hd
    have hd2 : (d != 0) = true := by simpa using hd
    have D1 := Lib.hid d1
    have D2 := Lib.hid d2
    clear d1 d2 q1 q2 q3 hag hd hd0

    go_wp2_with fail
    refine callW (W0 := W0) (g := g1) (by exact (by repeat (first | exact Below.refl _ _ | refine Ext.al ?_ _ | refine Ext.dr ?_ | refine Ext.drN ?_ _ | refine Ext.gr ?_ _ | refine Ext.set ?_ (by simp) _ | (refine Ext.trans' ?_ (by assumption))))) (D1.out _ (HS.out.ext (by exact (by repeat (first | exact Below.refl _ _ | refine Ext.al ?_ _ | refine Ext.dr ?_ | refine Ext.drN ?_ _ | refine Ext.gr ?_ _ | refine Ext.set ?_ (by simp) _ | (refine Ext.trans' ?_ (by assumption))))))) fun g5 hgr => ?_
    clear hgr
    go_wp2_with fail
    refine callW (W0 := W0) (g := g5) (by exact (by repeat (first | exact Below.refl _ _ | refine Ext.al ?_ _ | refine Ext.dr ?_ | refine Ext.drN ?_ _ | refine Ext.gr ?_ _ | refine Ext.set ?_ (by simp) _ | (refine Ext.trans' ?_ (by assumption))))) (D2.out _ (HS.out.ext (by exact (by repeat (first | exact Below.refl _ _ | refine Ext.al ?_ _ | refine Ext.dr ?_ | refine Ext.drN ?_ _ | refine Ext.gr ?_ _ | refine Ext.set ?_ (by simp) _ | (refine Ext.trans' ?_ (by assumption)))))) (HT.out.ext (by exact (by repeat (first | exact Below.refl _ _ | refine Ext.al ?_ _ | refine Ext.dr ?_ | refine Ext.drN ?_ _ | refine Ext.gr ?_ _ | refine Ext.set ?_ (by simp) _ | (refine Ext.trans' ?_ (by assumption))))))) fun g6 hgr => ?_
    clear hgr
    go_wp2_with fail
    refine callW (W0 := W0) (g := g6) (by exact (by repeat (first | exact Below.refl _ _ | refine Ext.al ?_ _ | refine Ext.dr ?_ | refine Ext.drN ?_ _ | refine Ext.gr ?_ _ | refine Ext.set ?_ (by simp) _ | (refine Ext.trans' ?_ (by assumption))))) (works_any _) fun g7 hgr => ?_
    clear hgr
    go_wp2_with fail
    go_ret
    exact ⟨rfl, HW.out.trans' (grow_below W0 g7)⟩

  · have g := (agr_iff V.out).1 hag
    have q1 := spanE_agr V.out (a := A) (b := B) (by omega) (by omega)
    rw [hag] at q1
    replace q1 : spanE h A B = 0 := q1
    rw [q1, spanLo_agr V.out hag (by omega) (by omega), spanHi_agr V.out hag (by omega) (by omega)] at d1
    have hts : truthE h t = 0 → -(ds h (B + 1) A) ≤ sm t A B ∧ sm t A B ≤ ds h A (B + 1) := fun e => truth_span V.out g (truthE_iff.1 e).2 hAB (by omega)
    obtain ⟨s1, s2⟩ := ds_sum_le V.out g (a := A) (b := B + 1) (by omega) (by omega)
    have s3 := ds_back V.out g (a := A) (b := B + 1) (by omega) (by omega)
    obtain ⟨slo, hlo⟩ : ∃ x, x = -ds h (B + 1) A := ⟨_, rfl⟩
    obtain ⟨shi, hhi⟩ : ∃ x, x = ds h A (B + 1) := ⟨_, rfl⟩
    rw [← hlo, ← hhi] at d1 hts
    rw [← hhi] at s1 s3
    rw [← hlo] at s2
    have s4 : slo ≤ shi := by omega
    have s5 : shi ≤ 10000000 := by
      have : h.most * ((B + 1 - A : Nat) : Int) ≤ 1000000 * ((B + 1 - A : Nat) : Int) := Int.mul_le_mul_of_nonneg_right m1 (by omega)
      omega
    have SLO := Lib.hid (show slo = -ds h (B + 1) A from hlo)
    have SHI := Lib.hid hhi
    have G := Lib.hid g
    have D1 := Lib.hid d1
    have D2 := Lib.hid d2
    have HTS := Lib.hid hts
    clear d1 d2 q1 g hts s1 s3 hlo hhi hag

    go_wp2_with fail
    refine callW (W0 := W0) (g := g1) (by exact (by repeat (first | exact Below.refl _ _ | refine Ext.al ?_ _ | refine Ext.dr ?_ | refine Ext.drN ?_ _ | refine Ext.gr ?_ _ | refine Ext.set ?_ (by simp) _ | (refine Ext.trans' ?_ (by assumption))))) (D1.out _ (HS.out.ext (by exact (by repeat (first | exact Below.refl _ _ | refine Ext.al ?_ _ | refine Ext.dr ?_ | refine Ext.drN ?_ _ | refine Ext.gr ?_ _ | refine Ext.set ?_ (by simp) _ | (refine Ext.trans' ?_ (by assumption))))))) fun g8 hgr => ?_
    clear hgr
    go_upto_region 6 with (fail)
    obtain ⟨X0, hX0⟩ : ∃ zz9, zz9 = (grow W0 g8).alloc (.cells #[.int .i64 slo, .int .i64 shi] 35) := ⟨_, rfl⟩
    have x0 : X0.cell? ⟨(grow W0 g8).heap.size, 0, none⟩ = some (.int .i64 slo) := by rw [hX0]; simp [go_sem]
    have x1 : X0.cell? ⟨(grow W0 g8).heap.size, 1, none⟩ = some (.int .i64 shi) := by rw [hX0]; simp [go_sem]
    have eX0 : Ext W0 X0 := by rw [hX0]; exact (by repeat (first | exact Below.refl _ _ | refine Ext.al ?_ _ | refine Ext.dr ?_ | refine Ext.drN ?_ _ | refine Ext.gr ?_ _ | refine Ext.set ?_ (by simp) _ | (refine Ext.trans' ?_ (by assumption))))
    replace k0 := cell_ext eX0 k0
    replace k1 := cell_ext eX0 k1
    replace k2 := cell_ext eX0 k2
    replace HS := Lib.hid (HS.out.ext eX0)
    replace HT := Lib.hid (HT.out.ext eX0)
    replace HW := Lib.hid (HW.out.trans' eX0)
    rw [← hX0]
    obtain ⟨bS, hbS⟩ : ∃ b, b = (grow W0 g8).heap.size := ⟨_, rfl⟩
    rw [← hbS] at x0 x1 ⊢
    replace hz := World.block_lt_of_cell? _ _ k0
    have zbS := World.block_lt_of_cell? _ _ x0
    simp only at zbS
    clear hX0 eX0 hbS
    obtain ⟨d, hd0⟩ : ∃ d, d = truthE h t := ⟨_, rfl⟩
    have HD := Lib.hid hd0
    have d2 := D2.out
    rw [← hd0] at d2
    have D3 := Lib.hid d2
    clear d2 D2 hd0
    by_cases hd : d = 0
    · have it := (truthE_iff.1 (HD.out.symm.trans hd)).2
      obtain ⟨b1, b2⟩ := HTS.out (HD.out.symm.trans hd)
      have c8 := fun w hv => sum_any t (.slice ta t.length tcap) A B hAB (by have := it.len; omega) 1000000 (by omega) (by omega) (by have := H30.out; omega) (fun x hx => by have := it.all x hx; omega) w hv
      obtain ⟨sn, hsn⟩ : ∃ x, x = sm t A B := ⟨_, rfl⟩
      rw [← hsn] at c8 b1 b2
      have C8 := Lib.hid c8
      subst hd
      clear c8 hsn it

      go_wp2_with fail
      refine callW (W0 := X0) (g := ⟨X0, Below.refl _ _⟩) (by exact (by repeat (first | exact Below.refl _ _ | refine Ext.al ?_ _ | refine Ext.dr ?_ | refine Ext.drN ?_ _ | refine Ext.gr ?_ _ | refine Ext.set ?_ (by simp) _ | (refine Ext.trans' ?_ (by assumption))))) (D3.out _ (HS.out.ext (by exact (by repeat (first | exact Below.refl _ _ | refine Ext.al ?_ _ | refine Ext.dr ?_ | refine Ext.drN ?_ _ | refine Ext.gr ?_ _ | refine Ext.set ?_ (by simp) _ | (refine Ext.trans' ?_ (by assumption)))))) (HT.out.ext (by exact (by repeat (first | exact Below.refl _ _ | refine Ext.al ?_ _ | refine Ext.dr ?_ | refine Ext.drN ?_ _ | refine Ext.gr ?_ _ | refine Ext.set ?_ (by simp) _ | (refine Ext.trans' ?_ (by assumption))))))) fun g9 hgr => ?_
      clear hgr
      go_wp2_with fail
      refine callW (W0 := X0) (g := g9) (by exact (by repeat (first | exact Below.refl _ _ | refine Ext.al ?_ _ | refine Ext.dr ?_ | refine Ext.drN ?_ _ | refine Ext.gr ?_ _ | refine Ext.set ?_ (by simp) _ | (refine Ext.trans' ?_ (by assumption))))) (C8.out _ (HT.out.ext (by exact (by repeat (first | exact Below.refl _ _ | refine Ext.al ?_ _ | refine Ext.dr ?_ | refine Ext.drN ?_ _ | refine Ext.gr ?_ _ | refine Ext.set ?_ (by simp) _ | (refine Ext.trans' ?_ (by assumption))))))) fun g10 hgr => ?_
      clear hgr
      go_upto_region 14 with (fail)
      obtain ⟨r, hr⟩ : ∃ r, at_ % (shi - slo + 1) = r := ⟨_, rfl⟩
      have r0 : 0 ≤ r := by rw [← hr]; exact Int.emod_nonneg _ (by omega)
      have r1 : r ≤ shi - slo := by have := Int.emod_lt_of_pos at_ (show 0 < shi - slo + 1 by omega); omega
      go_quiet (fail)
      obtain ⟨n, hn⟩ : ∃ n, slo + r = n := ⟨_, rfl⟩
      go_upto_region 15 with (fail)
      simp only [hn]
      have hn0 : 0 ≤ n := by omega
      have hn1 : n ≤ 10000000 := by omega
      have hn2 : slo ≤ n := by omega
      have hn3 : n ≤ shi := by omega
      clear hr r0 r1 hn
      obtain ⟨Y0, hY0⟩ : ∃ zz9, zz9 = (grow X0 g10).drewN nq := ⟨_, rfl⟩
      have eY0 : Ext X0 Y0 := by rw [hY0]; exact (by repeat (first | exact Below.refl _ _ | refine Ext.al ?_ _ | refine Ext.dr ?_ | refine Ext.drN ?_ _ | refine Ext.gr ?_ _ | refine Ext.set ?_ (by simp) _ | (refine Ext.trans' ?_ (by assumption))))
      replace k0 := cell_ext eY0 k0
      replace k1 := cell_ext eY0 k1
      replace k2 := cell_ext eY0 k2
      replace x0 := cell_ext eY0 x0
      replace x1 := cell_ext eY0 x1
      replace HS := Lib.hid (HS.out.ext eY0)
      replace HT := Lib.hid (HT.out.ext eY0)
      replace HW := Lib.hid (HW.out.trans' eY0)
      rw [← hY0]
      replace hz := World.block_lt_of_cell? _ _ k0
      replace zbS := World.block_lt_of_cell? _ _ x0
      clear hY0 eY0
      have hw := fun w hs => with_any h (.slice sa h.cs.length cap) ⟨(A : Int), (B : Int), n, n⟩ w hs (by omega)
      obtain ⟨VW, ag⟩ := agr_withM V.out G.out hlen (a := A) (b := B) (lo := n) (hi := n) (by omega) (by omega) (by omega) (by omega) (by omega)
      rw [← SHI.out, ← SLO.out, show (decide (n ≤ shi) && decide (slo ≤ n)) = true by simp; omega] at ag
      have c9 := fun sv w hs => agrees_any (withH h ⟨(A : Int), (B : Int), n, n⟩) sv VW w hs
      rw [ag] at c9
      have C9 := Lib.hid c9
      have CW := Lib.hid hw
      clear hw VW ag c9
      refine wp_region_rove (Y0.heap.size) (Nat.le_refl _)
        [sqV (.agg #[.int .i64 h.n, .int .i64 h.most, .slice sa h.cs.length cap]),
         sqV (.int .i64 A),
         sqV (.int .i64 B),
         sqV (.int .i64 n),
         sqV (.int .i64 n),
         sqV (.agg #[.int .i64 A, .int .i64 B, .int .i64 n, .int .i64 n]),
         sqW (fun v W => ∃ sv', v = .agg #[.int .i64 h.n, .int .i64 h.most, sv'] ∧ IsCnts W sv' (h.cs ++ [⟨(A : Int), (B : Int), n, n⟩])) (fun _ _ _ ⟨sv', h1, h2⟩ e => ⟨sv', h1, h2.ext e⟩),
         sqV (.tuple #[.bool true, .bool true]),
         sqV (.tuple #[.bool true, .bool true]),
         sqV (.bool true),
         sqV (.bool true),
         sqV (.bool true),
         sqV (.bool true)]
        [true, true, true, true, true, true, false, true, true, true, true, true, true] [false, false, false, false, false, false, false, false, false, false, false, false, false] [true, true, true, true, true, true, true, true, true, true, true, true, true] [true, true, true, true, true, true, true, true, true, true, true, true, true]
        (by kernel_rfl) (by kernel_rfl) (by decide +kernel) (by decide +kernel) (by decide +kernel) rfl rfl ⟨?s0, ?s1, ?s2, ?s3, ?s4, ?s5, ?s6, ?s7, ?s8, ?s9, ?s10, ?s11, ?s12, trivial⟩ [some 114, some 115, some 116, some 117, some 118, some 119, some 120, some 121, some 113, some 122, some 123, some 17, some 18] rfl rfl ?send
      case s0 =>
        intro val ρ W hE hz hd hA hx
        have o0 : ρ (.tmp 5) = .pointer (some ⟨w.heap.size, 0, none⟩) := hA.old 5 (by decide)
        have f_k0 := cell_below hE (by simp only; omega) k0
        have f_k1 := cell_below hE (by simp only; omega) k1
        have f_k2 := cell_below hE (by simp only; omega) k2
        clear hd
        exact runq_val (W' := W) (by simp [execOp, o0, f_k0, f_k1, f_k2, go_sem]) (Below.refl _ _) rfl
      case s1 =>
        intro val ρ W hE hz hd hA hx
        have o0 : ρ (.tmp 11) = .int .i64 A := hA.old 11 (by decide)
        clear hd
        exact runq_val (W' := W) (by simp [execOp, o0, go_sem]) (Below.refl _ _) rfl
      case s2 =>
        intro val ρ W hE hz hd hA hx
        have o0 : ρ (.tmp 12) = .int .i64 B := hA.old 12 (by decide)
        clear hd
        exact runq_val (W' := W) (by simp [execOp, o0, go_sem]) (Below.refl _ _) rfl
      case s3 =>
        intro val ρ W hE hz hd hA hx
        have o0 : ρ (.tmp 16) = .int .i64 n := hA.old 16 (by decide)
        clear hd
        exact runq_val (W' := W) (by simp [execOp, o0, go_sem]) (Below.refl _ _) rfl
      case s4 =>
        intro val ρ W hE hz hd hA hx
        have o0 : ρ (.tmp 16) = .int .i64 n := hA.old 16 (by decide)
        clear hd
        exact runq_val (W' := W) (by simp [execOp, o0, go_sem]) (Below.refl _ _) rfl
      case s5 =>
        intro val ρ W hE hz hd hA hx
        have d1 : ρ (.tmp 115) = .int .i64 A := (hA.dep 1 (by decide) 115 rfl).trans (hd 1 (by decide))
        have d2 : ρ (.tmp 116) = .int .i64 B := (hA.dep 2 (by decide) 116 rfl).trans (hd 2 (by decide))
        have d3 : ρ (.tmp 117) = .int .i64 n := (hA.dep 3 (by decide) 117 rfl).trans (hd 3 (by decide))
        have d4 : ρ (.tmp 118) = .int .i64 n := (hA.dep 4 (by decide) 118 rfl).trans (hd 4 (by decide))
        clear hd
        refine runq_call 50 _ _ rfl #[.int .i64 A, .int .i64 B, .int .i64 n, .int .i64 n] (hA.func _) (by simp [d1, d2, d3, d4]) (fun args W => Try.call50 args W) ((counter_any _ _ _ _ W).mono ?_)
        rintro e w' ⟨rfl, hb⟩
        exact ⟨_, rfl, hb, rfl⟩
      case s8 =>
        intro val ρ W hE hz hd hA hx
        have d7 : ρ (.tmp 121) = .tuple #[.bool true, .bool true] := (hA.dep 7 (by decide) 121 rfl).trans (hd 7 (by decide))
        clear hd
        exact runq_val (W' := W) (by simp [execOp, d7, go_sem]) (Below.refl _ _) rfl
      case s9 =>
        intro val ρ W hE hz hd hA hx
        have d8 : ρ (.tmp 113) = .tuple #[.bool true, .bool true] := (hA.dep 8 (by decide) 113 rfl).trans (hd 8 (by decide))
        clear hd
        exact runq_val (W' := W) (by simp [execOp, d8, go_sem]) (Below.refl _ _) rfl
      case s10 =>
        intro val ρ W hE hz hd hA hx
        have d8 : ρ (.tmp 113) = .tuple #[.bool true, .bool true] := (hA.dep 8 (by decide) 113 rfl).trans (hd 8 (by decide))
        clear hd
        exact runq_val (W' := W) (by simp [execOp, d8, go_sem]) (Below.refl _ _) rfl
      case s11 =>
        intro val ρ W hE hz hd hA hx
        have d9 : ρ (.tmp 122) = .bool true := (hA.dep 9 (by decide) 122 rfl).trans (hd 9 (by decide))
        clear hd
        exact runq_val (W' := W) (by simp [execOp, d9, go_sem]) (Below.refl _ _) rfl
      case s12 =>
        intro val ρ W hE hz hd hA hx
        have d10 : ρ (.tmp 123) = .bool true := (hA.dep 10 (by decide) 123 rfl).trans (hd 10 (by decide))
        clear hd
        exact runq_val (W' := W) (by simp [execOp, d10, go_sem]) (Below.refl _ _) rfl
      case s6 =>
        intro val ρ W hE hz hd hA hx
        have d0 : ρ (.tmp 114) = .agg #[.int .i64 h.n, .int .i64 h.most, .slice sa h.cs.length cap] := (hA.dep 0 (by decide) 114 rfl).trans (hd 0 (by decide))
        have d5 : ρ (.tmp 119) = .agg #[.int .i64 A, .int .i64 B, .int .i64 (n), .int .i64 (n)] := (hA.dep 5 (by decide) 119 rfl).trans (hd 5 (by decide))
        clear hd
        refine runq_call 49 _ _ rfl #[.agg #[.int .i64 h.n, .int .i64 h.most, .slice sa h.cs.length cap], .agg #[.int .i64 A, .int .i64 B, .int .i64 (n), .int .i64 (n)]] (hA.func _) (by simp [d0, d5]) (fun args W => Try.call49 args W) ((CW.out W (HS.out.ext hE)).mono ?_)
        rintro e w' ⟨sv', rfl, hb, hs⟩
        exact ⟨_, rfl, hb, sv', rfl, hs⟩
      case s7 =>
        intro val ρ W hE hz hd hA hx
        obtain ⟨sv', hv6, hs6⟩ : ∃ sv', val 6 = .agg #[.int .i64 h.n, .int .i64 h.most, sv'] ∧ IsCnts W sv' (h.cs ++ [(⟨(A : Int), (B : Int), n, n⟩ : Cnt)]) := hd 6 (by decide)
        have d6 : ρ (.tmp 120) = .agg #[.int .i64 h.n, .int .i64 h.most, sv'] := (hA.dep 6 (by decide) 120 rfl).trans hv6
        clear hd
        refine runq_call 48 _ _ rfl #[.agg #[.int .i64 h.n, .int .i64 h.most, sv']] (hA.func _) (by simp [d6]) (fun args W => Try.call48 args W) ((C9.out sv' W hs6).mono ?_)
        rintro e w' ⟨rfl, hb⟩
        exact ⟨_, rfl, hb, rfl⟩
      case send =>
        intro val WW hE hzz hv
        obtain ⟨r0, r1, r2, r3, r4, r5, -, r7, r8, r9, r10, r11, r12, -⟩ := hv
        have q0 : val 0 = .agg #[.int .i64 h.n, .int .i64 h.most, .slice sa h.cs.length cap] := r0
        have q1 : val 1 = .int .i64 A := r1
        have q2 : val 2 = .int .i64 B := r2
        have q3 : val 3 = .int .i64 n := r3
        have q4 : val 4 = .int .i64 n := r4
        have q5 : val 5 = .agg #[.int .i64 A, .int .i64 B, .int .i64 n, .int .i64 n] := r5
        have q7 : val 7 = .tuple #[.bool true, .bool true] := r7
        have q8 : val 8 = .tuple #[.bool true, .bool true] := r8
        have q9 : val 9 = .bool true := r9
        have q10 : val 10 = .bool true := r10
        have q11 : val 11 = .bool true := r11
        have q12 : val 12 = .bool true := r12
        clear r0 r1 r2 r3 r4 r5 r7 r8 r9 r10 r11 r12
        obtain ⟨g90, rfl⟩ := grow_of hE
        clear hE hzz
        simp only [putD, q0, q1, q2, q3, q4, q5, q7, q8, q9, q10, q11, q12]
        go_frame
        clear q0 q1 q2 q3 q4 q5 q7 q8 q9 q10 q11 q12

        go_upto_region 18 with (fail)
        obtain ⟨Z0, hZ0⟩ : ∃ zz9, zz9 = (grow Y0 g90) := ⟨_, rfl⟩
        have eZ0 : Ext Y0 Z0 := by rw [hZ0]; exact (by repeat (first | exact Below.refl _ _ | refine Ext.al ?_ _ | refine Ext.dr ?_ | refine Ext.drN ?_ _ | refine Ext.gr ?_ _ | refine Ext.set ?_ (by simp) _ | (refine Ext.trans' ?_ (by assumption))))
        replace k0 := cell_ext eZ0 k0
        replace k1 := cell_ext eZ0 k1
        replace k2 := cell_ext eZ0 k2
        replace x0 := cell_ext eZ0 x0
        replace x1 := cell_ext eZ0 x1
        replace HS := Lib.hid (HS.out.ext eZ0)
        replace HT := Lib.hid (HT.out.ext eZ0)
        replace HW := Lib.hid (HW.out.trans' eZ0)
        rw [← hZ0]
        replace hz := World.block_lt_of_cell? _ _ k0
        replace zbS := World.block_lt_of_cell? _ _ x0
        clear hZ0 eZ0
        clear C9 CW
        have hw1 : IntKind.i64.wrap (shi + 1) = shi + 1 := IntWalk.i64_in _ (by omega)
        by_cases hmx : shi < 10000000
        · have hm1' : ((10000000 : Int) < shi + 1) = False := eq_false (by omega)

          have hw := fun w hs => with_any h (.slice sa h.cs.length cap) ⟨(A : Int), (B : Int), (shi + 1), 10000000⟩ w hs (by omega)
          obtain ⟨VW, ag⟩ := agr_withM V.out G.out hlen (a := A) (b := B) (lo := (shi + 1)) (hi := 10000000) (by omega) (by omega) (by omega) (by omega) (by omega)
          rw [← SHI.out, ← SLO.out, show (decide ((shi + 1) ≤ shi) && decide (slo ≤ 10000000)) = false by simp; omega] at ag
          have c9 := fun sv w hs => agrees_any (withH h ⟨(A : Int), (B : Int), (shi + 1), 10000000⟩) sv VW w hs
          rw [ag] at c9
          have C9 := Lib.hid c9
          have CW := Lib.hid hw
          clear hw VW ag c9
          refine wp_region_rove (Z0.heap.size) (Nat.le_refl _)
            [sqV (.agg #[.int .i64 h.n, .int .i64 h.most, .slice sa h.cs.length cap]),
             sqV (.int .i64 A),
             sqV (.int .i64 B),
             sqV (.pointer (some ⟨bS, 1, none⟩)),
             sqV (.int .i64 shi),
             sqV (.int .i64 (shi + 1)),
             sqV (.int .i64 (shi + 1)),
             sqV (.agg #[.int .i64 A, .int .i64 B, .int .i64 (shi + 1), .int .i64 10000000]),
             sqW (fun v W => ∃ sv', v = .agg #[.int .i64 h.n, .int .i64 h.most, sv'] ∧ IsCnts W sv' (h.cs ++ [(⟨(A : Int), (B : Int), (shi + 1), 10000000⟩ : Cnt)])) (fun _ _ _ ⟨sv', h1, h2⟩ e => ⟨sv', h1, h2.ext e⟩),
             sqV (.tuple #[.bool false, .bool true]),
             sqV (.tuple #[.bool false, .bool true]),
             sqV (.bool false),
             sqV (.bool true),
             sqV (.bool false),
             sqV (.bool true)]
            [true, true, true, true, true, true, true, true, false, true, true, true, true, true, true] [false, false, false, false, false, false, false, false, false, false, false, false, false, false, false] [true, true, true, true, true, true, true, true, true, true, true, true, true, true, true] [true, true, true, true, true, true, true, true, true, true, true, true, true, true, true]
            (by kernel_rfl) (by kernel_rfl) (by decide +kernel) (by decide +kernel) (by decide +kernel) rfl rfl ⟨?s0, ?s1, ?s2, ?s3, ?s4, ?s5, ?s6, ?s7, ?s8, ?s9, ?s10, ?s11, ?s12, ?s13, ?s14, trivial⟩ [some 131, some 132, some 133, some 134, some 135, some 136, some 137, some 138, some 139, some 140, some 130, some 141, some 142, some 17, some 18] rfl rfl ?send
          case s0 =>
            intro val ρ W hE hz hd hA hx
            have o0 : ρ (.tmp 5) = .pointer (some ⟨w.heap.size, 0, none⟩) := hA.old 5 (by decide)
            have f_k0 := cell_below hE (by simp only; omega) k0
            have f_k1 := cell_below hE (by simp only; omega) k1
            have f_k2 := cell_below hE (by simp only; omega) k2
            clear hd
            exact runq_val (W' := W) (by simp [execOp, o0, f_k0, f_k1, f_k2, go_sem]) (Below.refl _ _) rfl
          case s1 =>
            intro val ρ W hE hz hd hA hx
            have o0 : ρ (.tmp 11) = .int .i64 A := hA.old 11 (by decide)
            clear hd
            exact runq_val (W' := W) (by simp [execOp, o0, go_sem]) (Below.refl _ _) rfl
          case s2 =>
            intro val ρ W hE hz hd hA hx
            have o0 : ρ (.tmp 12) = .int .i64 B := hA.old 12 (by decide)
            clear hd
            exact runq_val (W' := W) (by simp [execOp, o0, go_sem]) (Below.refl _ _) rfl
          case s3 =>
            intro val ρ W hE hz hd hA hx
            have o0 : ρ (.tmp 13) = .pointer (some ⟨bS, 0, none⟩) := hA.old 13 (by decide)
            clear hd
            exact runq_val (W' := W) (by simp [execOp, o0, go_sem]) (Below.refl _ _) rfl
          case s4 =>
            intro val ρ W hE hz hd hA hx
            have d3 : ρ (.tmp 134) = .pointer (some ⟨bS, 1, none⟩) := (hA.dep 3 (by decide) 134 rfl).trans (hd 3 (by decide))
            have f_x1 := cell_below hE (by simp only; omega) x1
            clear hd
            exact runq_val (W' := W) (by simp [execOp, d3, f_x1, go_sem]) (Below.refl _ _) rfl
          case s5 =>
            intro val ρ W hE hz hd hA hx
            have d4 : ρ (.tmp 135) = .int .i64 shi := (hA.dep 4 (by decide) 135 rfl).trans (hd 4 (by decide))
            clear hd
            exact runq_val (W' := W) (by simp [execOp, hA.const, d4, hw1, go_sem]) (Below.refl _ _) rfl
          case s6 =>
            intro val ρ W hE hz hd hA hx
            have d5 : ρ (.tmp 136) = .int .i64 (shi + 1) := (hA.dep 5 (by decide) 136 rfl).trans (hd 5 (by decide))
            clear hd
            exact runq_val (W' := W) (by simp [execOp, hA.const, d5, hm1', Builtin.min_, Builtin.min2, go_sem]) (Below.refl _ _) rfl
          case s7 =>
            intro val ρ W hE hz hd hA hx
            have d1 : ρ (.tmp 132) = .int .i64 A := (hA.dep 1 (by decide) 132 rfl).trans (hd 1 (by decide))
            have d2 : ρ (.tmp 133) = .int .i64 B := (hA.dep 2 (by decide) 133 rfl).trans (hd 2 (by decide))
            have d6 : ρ (.tmp 137) = .int .i64 (shi + 1) := (hA.dep 6 (by decide) 137 rfl).trans (hd 6 (by decide))
            clear hd
            refine runq_call 50 _ _ rfl #[.int .i64 A, .int .i64 B, .int .i64 (shi + 1), .int .i64 10000000] (hA.func _) (by simp [d1, d2, d6, hA.const]) (fun args W => Try.call50 args W) ((counter_any _ _ _ _ W).mono ?_)
            rintro e w' ⟨rfl, hb⟩
            exact ⟨_, rfl, hb, rfl⟩
          case s10 =>
            intro val ρ W hE hz hd hA hx
            have d9 : ρ (.tmp 140) = .tuple #[.bool false, .bool true] := (hA.dep 9 (by decide) 140 rfl).trans (hd 9 (by decide))
            clear hd
            exact runq_val (W' := W) (by simp [execOp, d9, go_sem]) (Below.refl _ _) rfl
          case s11 =>
            intro val ρ W hE hz hd hA hx
            have d10 : ρ (.tmp 130) = .tuple #[.bool false, .bool true] := (hA.dep 10 (by decide) 130 rfl).trans (hd 10 (by decide))
            clear hd
            exact runq_val (W' := W) (by simp [execOp, d10, go_sem]) (Below.refl _ _) rfl
          case s12 =>
            intro val ρ W hE hz hd hA hx
            have d10 : ρ (.tmp 130) = .tuple #[.bool false, .bool true] := (hA.dep 10 (by decide) 130 rfl).trans (hd 10 (by decide))
            clear hd
            exact runq_val (W' := W) (by simp [execOp, d10, go_sem]) (Below.refl _ _) rfl
          case s13 =>
            intro val ρ W hE hz hd hA hx
            have d11 : ρ (.tmp 141) = .bool false := (hA.dep 11 (by decide) 141 rfl).trans (hd 11 (by decide))
            clear hd
            exact runq_val (W' := W) (by simp [execOp, d11, go_sem]) (Below.refl _ _) rfl
          case s14 =>
            intro val ρ W hE hz hd hA hx
            have d12 : ρ (.tmp 142) = .bool true := (hA.dep 12 (by decide) 142 rfl).trans (hd 12 (by decide))
            clear hd
            exact runq_val (W' := W) (by simp [execOp, d12, go_sem]) (Below.refl _ _) rfl
          case s8 =>
            intro val ρ W hE hz hd hA hx
            have d0 : ρ (.tmp 131) = .agg #[.int .i64 h.n, .int .i64 h.most, .slice sa h.cs.length cap] := (hA.dep 0 (by decide) 131 rfl).trans (hd 0 (by decide))
            have d5 : ρ (.tmp 138) = .agg #[.int .i64 A, .int .i64 B, .int .i64 ((shi + 1)), .int .i64 (10000000)] := (hA.dep 7 (by decide) 138 rfl).trans (hd 7 (by decide))
            clear hd
            refine runq_call 49 _ _ rfl #[.agg #[.int .i64 h.n, .int .i64 h.most, .slice sa h.cs.length cap], .agg #[.int .i64 A, .int .i64 B, .int .i64 ((shi + 1)), .int .i64 (10000000)]] (hA.func _) (by simp [d0, d5]) (fun args W => Try.call49 args W) ((CW.out W (HS.out.ext hE)).mono ?_)
            rintro e w' ⟨sv', rfl, hb, hs⟩
            exact ⟨_, rfl, hb, sv', rfl, hs⟩
          case s9 =>
            intro val ρ W hE hz hd hA hx
            obtain ⟨sv', hv6, hs6⟩ : ∃ sv', val 8 = .agg #[.int .i64 h.n, .int .i64 h.most, sv'] ∧ IsCnts W sv' (h.cs ++ [(⟨(A : Int), (B : Int), (shi + 1), 10000000⟩ : Cnt)]) := hd 8 (by decide)
            have d6 : ρ (.tmp 139) = .agg #[.int .i64 h.n, .int .i64 h.most, sv'] := (hA.dep 8 (by decide) 139 rfl).trans hv6
            clear hd
            refine runq_call 48 _ _ rfl #[.agg #[.int .i64 h.n, .int .i64 h.most, sv']] (hA.func _) (by simp [d6]) (fun args W => Try.call48 args W) ((C9.out sv' W hs6).mono ?_)
            rintro e w' ⟨rfl, hb⟩
            exact ⟨_, rfl, hb, rfl⟩
          case send =>
            intro val WW hE hzz hv
            obtain ⟨r0, r1, r2, r3, r4, r5, r6, r7, -, r9, r10, r11, r12, r13, r14, -⟩ := hv
            have q0 : val 0 = .agg #[.int .i64 h.n, .int .i64 h.most, .slice sa h.cs.length cap] := r0
            have q1 : val 1 = .int .i64 A := r1
            have q2 : val 2 = .int .i64 B := r2
            have q3 : val 3 = .pointer (some ⟨bS, 1, none⟩) := r3
            have q4 : val 4 = .int .i64 shi := r4
            have q5 : val 5 = .int .i64 (shi + 1) := r5
            have q6 : val 6 = .int .i64 (shi + 1) := r6
            have q7 : val 7 = .agg #[.int .i64 A, .int .i64 B, .int .i64 (shi + 1), .int .i64 10000000] := r7
            have q9 : val 9 = .tuple #[.bool false, .bool true] := r9
            have q10 : val 10 = .tuple #[.bool false, .bool true] := r10
            have q11 : val 11 = .bool false := r11
            have q12 : val 12 = .bool true := r12
            have q13 : val 13 = .bool false := r13
            have q14 : val 14 = .bool true := r14
            clear r0 r1 r2 r3 r4 r5 r6 r7 r9 r10 r11 r12 r13 r14
            obtain ⟨g91, rfl⟩ := grow_of hE
            clear hE hzz
            simp only [putD, q0, q1, q2, q3, q4, q5, q6, q7, q9, q10, q11, q12, q13, q14]
            go_frame
            clear q0 q1 q2 q3 q4 q5 q6 q7 q9 q10 q11 q12 q13 q14
            clear C9 CW hw1 hm1'

            go_upto_region 21 with (fail)
            by_cases hz0 : slo = 0
            · have hz1 : (slo == 0) = true := by simpa using hz0

              go_wp2_with fail
              refine callW (W0 := Z0) (g := g91) (by exact (by repeat (first | exact Below.refl _ _ | refine Ext.al ?_ _ | refine Ext.dr ?_ | refine Ext.drN ?_ _ | refine Ext.gr ?_ _ | refine Ext.set ?_ (by simp) _ | (refine Ext.trans' ?_ (by assumption))))) (works_any _) fun g11 hgr => ?_
              clear hgr
              go_wp2_with fail
              go_ret
              exact ⟨rfl, HW.out.trans' (grow_below Z0 g11)⟩

            have hz1 : (slo == 0) = false := by simpa using hz0
            go_upto_region 23 with (fail)
            obtain ⟨Z1, hZ1⟩ : ∃ zz9, zz9 = (grow Z0 g91) := ⟨_, rfl⟩
            have eZ1 : Ext Z0 Z1 := by rw [hZ1]; exact (by repeat (first | exact Below.refl _ _ | refine Ext.al ?_ _ | refine Ext.dr ?_ | refine Ext.drN ?_ _ | refine Ext.gr ?_ _ | refine Ext.set ?_ (by simp) _ | (refine Ext.trans' ?_ (by assumption))))
            replace k0 := cell_ext eZ1 k0
            replace k1 := cell_ext eZ1 k1
            replace k2 := cell_ext eZ1 k2
            replace x0 := cell_ext eZ1 x0
            replace x1 := cell_ext eZ1 x1
            replace HS := Lib.hid (HS.out.ext eZ1)
            replace HT := Lib.hid (HT.out.ext eZ1)
            replace HW := Lib.hid (HW.out.trans' eZ1)
            rw [← hZ1]
            replace hz := World.block_lt_of_cell? _ _ k0
            replace zbS := World.block_lt_of_cell? _ _ x0
            clear hZ1 eZ1
            have hw2 : IntKind.i64.wrap (slo - 1) = slo - 1 := IntWalk.i64_in _ (by omega)
            have hw := fun w hs => with_any h (.slice sa h.cs.length cap) ⟨(A : Int), (B : Int), 0, (slo - 1)⟩ w hs (by omega)
            obtain ⟨VW, ag⟩ := agr_withM V.out G.out hlen (a := A) (b := B) (lo := 0) (hi := (slo - 1)) (by omega) (by omega) (by omega) (by omega) (by omega)
            rw [← SHI.out, ← SLO.out, show (decide (0 ≤ shi) && decide (slo ≤ (slo - 1))) = false by simp; omega] at ag
            have c9 := fun sv w hs => agrees_any (withH h ⟨(A : Int), (B : Int), 0, (slo - 1)⟩) sv VW w hs
            rw [ag] at c9
            have C9 := Lib.hid c9
            have CW := Lib.hid hw
            clear hw VW ag c9
            refine wp_region_rove (Z1.heap.size) (Nat.le_refl _)
              [sqV (.agg #[.int .i64 h.n, .int .i64 h.most, .slice sa h.cs.length cap]),
               sqV (.int .i64 A),
               sqV (.int .i64 B),
               sqV (.pointer (some ⟨bS, 0, none⟩)),
               sqV (.int .i64 slo),
               sqV (.int .i64 (slo - 1)),
               sqV (.agg #[.int .i64 A, .int .i64 B, .int .i64 0, .int .i64 (slo - 1)]),
               sqW (fun v W => ∃ sv', v = .agg #[.int .i64 h.n, .int .i64 h.most, sv'] ∧ IsCnts W sv' (h.cs ++ [(⟨(A : Int), (B : Int), 0, slo - 1⟩ : Cnt)])) (fun _ _ _ ⟨sv', h1, h2⟩ e => ⟨sv', h1, h2.ext e⟩),
               sqV (.tuple #[.bool false, .bool true]),
               sqV (.tuple #[.bool false, .bool true]),
               sqV (.bool false),
               sqV (.bool true),
               sqV (.bool false),
               sqV (.bool true)]
              [true, true, true, true, true, true, true, false, true, true, true, true, true, true] [false, false, false, false, false, false, false, false, false, false, false, false, false, false] [true, true, true, true, true, true, true, true, true, true, true, true, true, true] [true, true, true, true, true, true, true, true, true, true, true, true, true, true]
              (by kernel_rfl) (by kernel_rfl) (by decide +kernel) (by decide +kernel) (by decide +kernel) rfl rfl ⟨?s0, ?s1, ?s2, ?s3, ?s4, ?s5, ?s6, ?s7, ?s8, ?s9, ?s10, ?s11, ?s12, ?s13, trivial⟩ [some 158, some 159, some 160, some 161, some 162, some 163, some 164, some 165, some 166, some 157, some 167, some 168, some 17, some 18] rfl rfl ?send
            case s0 =>
              intro val ρ W hE hz hd hA hx
              have o0 : ρ (.tmp 5) = .pointer (some ⟨w.heap.size, 0, none⟩) := hA.old 5 (by decide)
              have f_k0 := cell_below hE (by simp only; omega) k0
              have f_k1 := cell_below hE (by simp only; omega) k1
              have f_k2 := cell_below hE (by simp only; omega) k2
              clear hd
              exact runq_val (W' := W) (by simp [execOp, o0, f_k0, f_k1, f_k2, go_sem]) (Below.refl _ _) rfl
            case s1 =>
              intro val ρ W hE hz hd hA hx
              have o0 : ρ (.tmp 11) = .int .i64 A := hA.old 11 (by decide)
              clear hd
              exact runq_val (W' := W) (by simp [execOp, o0, go_sem]) (Below.refl _ _) rfl
            case s2 =>
              intro val ρ W hE hz hd hA hx
              have o0 : ρ (.tmp 12) = .int .i64 B := hA.old 12 (by decide)
              clear hd
              exact runq_val (W' := W) (by simp [execOp, o0, go_sem]) (Below.refl _ _) rfl
            case s3 =>
              intro val ρ W hE hz hd hA hx
              have o0 : ρ (.tmp 13) = .pointer (some ⟨bS, 0, none⟩) := hA.old 13 (by decide)
              clear hd
              exact runq_val (W' := W) (by simp [execOp, o0, go_sem]) (Below.refl _ _) rfl
            case s4 =>
              intro val ρ W hE hz hd hA hx
              have d3 : ρ (.tmp 161) = .pointer (some ⟨bS, 0, none⟩) := (hA.dep 3 (by decide) 161 rfl).trans (hd 3 (by decide))
              have f_x0 := cell_below hE (by simp only; omega) x0
              clear hd
              exact runq_val (W' := W) (by simp [execOp, d3, f_x0, go_sem]) (Below.refl _ _) rfl
            case s5 =>
              intro val ρ W hE hz hd hA hx
              have d4 : ρ (.tmp 162) = .int .i64 slo := (hA.dep 4 (by decide) 162 rfl).trans (hd 4 (by decide))
              clear hd
              exact runq_val (W' := W) (by simp [execOp, hA.const, d4, hw2, go_sem]) (Below.refl _ _) rfl
            case s6 =>
              intro val ρ W hE hz hd hA hx
              have d1 : ρ (.tmp 159) = .int .i64 A := (hA.dep 1 (by decide) 159 rfl).trans (hd 1 (by decide))
              have d2 : ρ (.tmp 160) = .int .i64 B := (hA.dep 2 (by decide) 160 rfl).trans (hd 2 (by decide))
              have d5 : ρ (.tmp 163) = .int .i64 (slo - 1) := (hA.dep 5 (by decide) 163 rfl).trans (hd 5 (by decide))
              clear hd
              refine runq_call 50 _ _ rfl #[.int .i64 A, .int .i64 B, .int .i64 0, .int .i64 (slo - 1)] (hA.func _) (by simp [d1, d2, d5, hA.const]) (fun args W => Try.call50 args W) ((counter_any _ _ _ _ W).mono ?_)
              rintro e w' ⟨rfl, hb⟩
              exact ⟨_, rfl, hb, rfl⟩
            case s9 =>
              intro val ρ W hE hz hd hA hx
              have d8 : ρ (.tmp 166) = .tuple #[.bool false, .bool true] := (hA.dep 8 (by decide) 166 rfl).trans (hd 8 (by decide))
              clear hd
              exact runq_val (W' := W) (by simp [execOp, d8, go_sem]) (Below.refl _ _) rfl
            case s10 =>
              intro val ρ W hE hz hd hA hx
              have d9 : ρ (.tmp 157) = .tuple #[.bool false, .bool true] := (hA.dep 9 (by decide) 157 rfl).trans (hd 9 (by decide))
              clear hd
              exact runq_val (W' := W) (by simp [execOp, d9, go_sem]) (Below.refl _ _) rfl
            case s11 =>
              intro val ρ W hE hz hd hA hx
              have d9 : ρ (.tmp 157) = .tuple #[.bool false, .bool true] := (hA.dep 9 (by decide) 157 rfl).trans (hd 9 (by decide))
              clear hd
              exact runq_val (W' := W) (by simp [execOp, d9, go_sem]) (Below.refl _ _) rfl
            case s12 =>
              intro val ρ W hE hz hd hA hx
              have d10 : ρ (.tmp 167) = .bool false := (hA.dep 10 (by decide) 167 rfl).trans (hd 10 (by decide))
              clear hd
              exact runq_val (W' := W) (by simp [execOp, d10, go_sem]) (Below.refl _ _) rfl
            case s13 =>
              intro val ρ W hE hz hd hA hx
              have d11 : ρ (.tmp 168) = .bool true := (hA.dep 11 (by decide) 168 rfl).trans (hd 11 (by decide))
              clear hd
              exact runq_val (W' := W) (by simp [execOp, d11, go_sem]) (Below.refl _ _) rfl
            case s7 =>
              intro val ρ W hE hz hd hA hx
              have d0 : ρ (.tmp 158) = .agg #[.int .i64 h.n, .int .i64 h.most, .slice sa h.cs.length cap] := (hA.dep 0 (by decide) 158 rfl).trans (hd 0 (by decide))
              have d5 : ρ (.tmp 164) = .agg #[.int .i64 A, .int .i64 B, .int .i64 (0), .int .i64 (slo - 1)] := (hA.dep 6 (by decide) 164 rfl).trans (hd 6 (by decide))
              clear hd
              refine runq_call 49 _ _ rfl #[.agg #[.int .i64 h.n, .int .i64 h.most, .slice sa h.cs.length cap], .agg #[.int .i64 A, .int .i64 B, .int .i64 (0), .int .i64 (slo - 1)]] (hA.func _) (by simp [d0, d5]) (fun args W => Try.call49 args W) ((CW.out W (HS.out.ext hE)).mono ?_)
              rintro e w' ⟨sv', rfl, hb, hs⟩
              exact ⟨_, rfl, hb, sv', rfl, hs⟩
            case s8 =>
              intro val ρ W hE hz hd hA hx
              obtain ⟨sv', hv6, hs6⟩ : ∃ sv', val 7 = .agg #[.int .i64 h.n, .int .i64 h.most, sv'] ∧ IsCnts W sv' (h.cs ++ [(⟨(A : Int), (B : Int), 0, slo - 1⟩ : Cnt)]) := hd 7 (by decide)
              have d6 : ρ (.tmp 165) = .agg #[.int .i64 h.n, .int .i64 h.most, sv'] := (hA.dep 7 (by decide) 165 rfl).trans hv6
              clear hd
              refine runq_call 48 _ _ rfl #[.agg #[.int .i64 h.n, .int .i64 h.most, sv']] (hA.func _) (by simp [d6]) (fun args W => Try.call48 args W) ((C9.out sv' W hs6).mono ?_)
              rintro e w' ⟨rfl, hb⟩
              exact ⟨_, rfl, hb, rfl⟩
            case send =>
              intro val WW hE hzz hv
              obtain ⟨r0, r1, r2, r3, r4, r5, r6, -, r8, r9, r10, r11, r12, r13, -⟩ := hv
              have q0 : val 0 = .agg #[.int .i64 h.n, .int .i64 h.most, .slice sa h.cs.length cap] := r0
              have q1 : val 1 = .int .i64 A := r1
              have q2 : val 2 = .int .i64 B := r2
              have q3 : val 3 = .pointer (some ⟨bS, 0, none⟩) := r3
              have q4 : val 4 = .int .i64 slo := r4
              have q5 : val 5 = .int .i64 (slo - 1) := r5
              have q6 : val 6 = .agg #[.int .i64 A, .int .i64 B, .int .i64 0, .int .i64 (slo - 1)] := r6
              have q8 : val 8 = .tuple #[.bool false, .bool true] := r8
              have q9 : val 9 = .tuple #[.bool false, .bool true] := r9
              have q10 : val 10 = .bool false := r10
              have q11 : val 11 = .bool true := r11
              have q12 : val 12 = .bool false := r12
              have q13 : val 13 = .bool true := r13
              clear r0 r1 r2 r3 r4 r5 r6 r8 r9 r10 r11 r12 r13
              obtain ⟨g92, rfl⟩ := grow_of hE
              clear hE hzz
              simp only [putD, q0, q1, q2, q3, q4, q5, q6, q8, q9, q10, q11, q12, q13]
              go_frame
              clear q0 q1 q2 q3 q4 q5 q6 q8 q9 q10 q11 q12 q13
              clear C9 CW hw2

              go_wp2_with fail
              refine callW (W0 := Z1) (g := g92) (by exact (by repeat (first | exact Below.refl _ _ | refine Ext.al ?_ _ | refine Ext.dr ?_ | refine Ext.drN ?_ _ | refine Ext.gr ?_ _ | refine Ext.set ?_ (by simp) _ | (refine Ext.trans' ?_ (by assumption))))) (works_any _) fun g12 hgr => ?_
              clear hgr
              go_wp2_with fail
              go_ret
              exact ⟨rfl, HW.out.trans' (grow_below Z1 g12)⟩

        · have hm1' : ((10000000 : Int) < shi + 1) = True := eq_true (by omega)

          have hw := fun w hs => with_any h (.slice sa h.cs.length cap) ⟨(A : Int), (B : Int), 10000000, 10000000⟩ w hs (by omega)
          obtain ⟨VW, ag⟩ := agr_withM V.out G.out hlen (a := A) (b := B) (lo := 10000000) (hi := 10000000) (by omega) (by omega) (by omega) (by omega) (by omega)
          rw [← SHI.out, ← SLO.out, show (decide (10000000 ≤ shi) && decide (slo ≤ 10000000)) = true by simp; omega] at ag
          have c9 := fun sv w hs => agrees_any (withH h ⟨(A : Int), (B : Int), 10000000, 10000000⟩) sv VW w hs
          rw [ag] at c9
          have C9 := Lib.hid c9
          have CW := Lib.hid hw
          clear hw VW ag c9
          refine wp_region_rove (Z0.heap.size) (Nat.le_refl _)
            [sqV (.agg #[.int .i64 h.n, .int .i64 h.most, .slice sa h.cs.length cap]),
             sqV (.int .i64 A),
             sqV (.int .i64 B),
             sqV (.pointer (some ⟨bS, 1, none⟩)),
             sqV (.int .i64 shi),
             sqV (.int .i64 (shi + 1)),
             sqV (.int .i64 10000000),
             sqV (.agg #[.int .i64 A, .int .i64 B, .int .i64 10000000, .int .i64 10000000]),
             sqW (fun v W => ∃ sv', v = .agg #[.int .i64 h.n, .int .i64 h.most, sv'] ∧ IsCnts W sv' (h.cs ++ [(⟨(A : Int), (B : Int), 10000000, 10000000⟩ : Cnt)])) (fun _ _ _ ⟨sv', h1, h2⟩ e => ⟨sv', h1, h2.ext e⟩),
             sqV (.tuple #[.bool true, .bool true]),
             sqV (.tuple #[.bool true, .bool true]),
             sqV (.bool true),
             sqV (.bool true),
             sqV (.bool true),
             sqV (.bool true)]
            [true, true, true, true, true, true, true, true, false, true, true, true, true, true, true] [false, false, false, false, false, false, false, false, false, false, false, false, false, false, false] [true, true, true, true, true, true, true, true, true, true, true, true, true, true, true] [true, true, true, true, true, true, true, true, true, true, true, true, true, true, true]
            (by kernel_rfl) (by kernel_rfl) (by decide +kernel) (by decide +kernel) (by decide +kernel) rfl rfl ⟨?s0, ?s1, ?s2, ?s3, ?s4, ?s5, ?s6, ?s7, ?s8, ?s9, ?s10, ?s11, ?s12, ?s13, ?s14, trivial⟩ [some 131, some 132, some 133, some 134, some 135, some 136, some 137, some 138, some 139, some 140, some 130, some 141, some 142, some 17, some 18] rfl rfl ?send
          case s0 =>
            intro val ρ W hE hz hd hA hx
            have o0 : ρ (.tmp 5) = .pointer (some ⟨w.heap.size, 0, none⟩) := hA.old 5 (by decide)
            have f_k0 := cell_below hE (by simp only; omega) k0
            have f_k1 := cell_below hE (by simp only; omega) k1
            have f_k2 := cell_below hE (by simp only; omega) k2
            clear hd
            exact runq_val (W' := W) (by simp [execOp, o0, f_k0, f_k1, f_k2, go_sem]) (Below.refl _ _) rfl
          case s1 =>
            intro val ρ W hE hz hd hA hx
            have o0 : ρ (.tmp 11) = .int .i64 A := hA.old 11 (by decide)
            clear hd
            exact runq_val (W' := W) (by simp [execOp, o0, go_sem]) (Below.refl _ _) rfl
          case s2 =>
            intro val ρ W hE hz hd hA hx
            have o0 : ρ (.tmp 12) = .int .i64 B := hA.old 12 (by decide)
            clear hd
            exact runq_val (W' := W) (by simp [execOp, o0, go_sem]) (Below.refl _ _) rfl
          case s3 =>
            intro val ρ W hE hz hd hA hx
            have o0 : ρ (.tmp 13) = .pointer (some ⟨bS, 0, none⟩) := hA.old 13 (by decide)
            clear hd
            exact runq_val (W' := W) (by simp [execOp, o0, go_sem]) (Below.refl _ _) rfl
          case s4 =>
            intro val ρ W hE hz hd hA hx
            have d3 : ρ (.tmp 134) = .pointer (some ⟨bS, 1, none⟩) := (hA.dep 3 (by decide) 134 rfl).trans (hd 3 (by decide))
            have f_x1 := cell_below hE (by simp only; omega) x1
            clear hd
            exact runq_val (W' := W) (by simp [execOp, d3, f_x1, go_sem]) (Below.refl _ _) rfl
          case s5 =>
            intro val ρ W hE hz hd hA hx
            have d4 : ρ (.tmp 135) = .int .i64 shi := (hA.dep 4 (by decide) 135 rfl).trans (hd 4 (by decide))
            clear hd
            exact runq_val (W' := W) (by simp [execOp, hA.const, d4, hw1, go_sem]) (Below.refl _ _) rfl
          case s6 =>
            intro val ρ W hE hz hd hA hx
            have d5 : ρ (.tmp 136) = .int .i64 (shi + 1) := (hA.dep 5 (by decide) 136 rfl).trans (hd 5 (by decide))
            clear hd
            exact runq_val (W' := W) (by simp [execOp, hA.const, d5, hm1', Builtin.min_, Builtin.min2, go_sem]) (Below.refl _ _) rfl
          case s7 =>
            intro val ρ W hE hz hd hA hx
            have d1 : ρ (.tmp 132) = .int .i64 A := (hA.dep 1 (by decide) 132 rfl).trans (hd 1 (by decide))
            have d2 : ρ (.tmp 133) = .int .i64 B := (hA.dep 2 (by decide) 133 rfl).trans (hd 2 (by decide))
            have d6 : ρ (.tmp 137) = .int .i64 10000000 := (hA.dep 6 (by decide) 137 rfl).trans (hd 6 (by decide))
            clear hd
            refine runq_call 50 _ _ rfl #[.int .i64 A, .int .i64 B, .int .i64 10000000, .int .i64 10000000] (hA.func _) (by simp [d1, d2, d6, hA.const]) (fun args W => Try.call50 args W) ((counter_any _ _ _ _ W).mono ?_)
            rintro e w' ⟨rfl, hb⟩
            exact ⟨_, rfl, hb, rfl⟩
          case s10 =>
            intro val ρ W hE hz hd hA hx
            have d9 : ρ (.tmp 140) = .tuple #[.bool true, .bool true] := (hA.dep 9 (by decide) 140 rfl).trans (hd 9 (by decide))
            clear hd
            exact runq_val (W' := W) (by simp [execOp, d9, go_sem]) (Below.refl _ _) rfl
          case s11 =>
            intro val ρ W hE hz hd hA hx
            have d10 : ρ (.tmp 130) = .tuple #[.bool true, .bool true] := (hA.dep 10 (by decide) 130 rfl).trans (hd 10 (by decide))
            clear hd
            exact runq_val (W' := W) (by simp [execOp, d10, go_sem]) (Below.refl _ _) rfl
          case s12 =>
            intro val ρ W hE hz hd hA hx
            have d10 : ρ (.tmp 130) = .tuple #[.bool true, .bool true] := (hA.dep 10 (by decide) 130 rfl).trans (hd 10 (by decide))
            clear hd
            exact runq_val (W' := W) (by simp [execOp, d10, go_sem]) (Below.refl _ _) rfl
          case s13 =>
            intro val ρ W hE hz hd hA hx
            have d11 : ρ (.tmp 141) = .bool true := (hA.dep 11 (by decide) 141 rfl).trans (hd 11 (by decide))
            clear hd
            exact runq_val (W' := W) (by simp [execOp, d11, go_sem]) (Below.refl _ _) rfl
          case s14 =>
            intro val ρ W hE hz hd hA hx
            have d12 : ρ (.tmp 142) = .bool true := (hA.dep 12 (by decide) 142 rfl).trans (hd 12 (by decide))
            clear hd
            exact runq_val (W' := W) (by simp [execOp, d12, go_sem]) (Below.refl _ _) rfl
          case s8 =>
            intro val ρ W hE hz hd hA hx
            have d0 : ρ (.tmp 131) = .agg #[.int .i64 h.n, .int .i64 h.most, .slice sa h.cs.length cap] := (hA.dep 0 (by decide) 131 rfl).trans (hd 0 (by decide))
            have d5 : ρ (.tmp 138) = .agg #[.int .i64 A, .int .i64 B, .int .i64 (10000000), .int .i64 (10000000)] := (hA.dep 7 (by decide) 138 rfl).trans (hd 7 (by decide))
            clear hd
            refine runq_call 49 _ _ rfl #[.agg #[.int .i64 h.n, .int .i64 h.most, .slice sa h.cs.length cap], .agg #[.int .i64 A, .int .i64 B, .int .i64 (10000000), .int .i64 (10000000)]] (hA.func _) (by simp [d0, d5]) (fun args W => Try.call49 args W) ((CW.out W (HS.out.ext hE)).mono ?_)
            rintro e w' ⟨sv', rfl, hb, hs⟩
            exact ⟨_, rfl, hb, sv', rfl, hs⟩
          case s9 =>
            intro val ρ W hE hz hd hA hx
            obtain ⟨sv', hv6, hs6⟩ : ∃ sv', val 8 = .agg #[.int .i64 h.n, .int .i64 h.most, sv'] ∧ IsCnts W sv' (h.cs ++ [(⟨(A : Int), (B : Int), 10000000, 10000000⟩ : Cnt)]) := hd 8 (by decide)
            have d6 : ρ (.tmp 139) = .agg #[.int .i64 h.n, .int .i64 h.most, sv'] := (hA.dep 8 (by decide) 139 rfl).trans hv6
            clear hd
            refine runq_call 48 _ _ rfl #[.agg #[.int .i64 h.n, .int .i64 h.most, sv']] (hA.func _) (by simp [d6]) (fun args W => Try.call48 args W) ((C9.out sv' W hs6).mono ?_)
            rintro e w' ⟨rfl, hb⟩
            exact ⟨_, rfl, hb, rfl⟩
          case send =>
            intro val WW hE hzz hv
            obtain ⟨r0, r1, r2, r3, r4, r5, r6, r7, -, r9, r10, r11, r12, r13, r14, -⟩ := hv
            have q0 : val 0 = .agg #[.int .i64 h.n, .int .i64 h.most, .slice sa h.cs.length cap] := r0
            have q1 : val 1 = .int .i64 A := r1
            have q2 : val 2 = .int .i64 B := r2
            have q3 : val 3 = .pointer (some ⟨bS, 1, none⟩) := r3
            have q4 : val 4 = .int .i64 shi := r4
            have q5 : val 5 = .int .i64 (shi + 1) := r5
            have q6 : val 6 = .int .i64 10000000 := r6
            have q7 : val 7 = .agg #[.int .i64 A, .int .i64 B, .int .i64 10000000, .int .i64 10000000] := r7
            have q9 : val 9 = .tuple #[.bool true, .bool true] := r9
            have q10 : val 10 = .tuple #[.bool true, .bool true] := r10
            have q11 : val 11 = .bool true := r11
            have q12 : val 12 = .bool true := r12
            have q13 : val 13 = .bool true := r13
            have q14 : val 14 = .bool true := r14
            clear r0 r1 r2 r3 r4 r5 r6 r7 r9 r10 r11 r12 r13 r14
            obtain ⟨g91, rfl⟩ := grow_of hE
            clear hE hzz
            simp only [putD, q0, q1, q2, q3, q4, q5, q6, q7, q9, q10, q11, q12, q13, q14]
            go_frame
            clear q0 q1 q2 q3 q4 q5 q6 q7 q9 q10 q11 q12 q13 q14
            clear C9 CW hw1 hm1'

            go_upto_region 21 with (fail)
            by_cases hz0 : slo = 0
            · have hz1 : (slo == 0) = true := by simpa using hz0

              go_wp2_with fail
              refine callW (W0 := Z0) (g := g91) (by exact (by repeat (first | exact Below.refl _ _ | refine Ext.al ?_ _ | refine Ext.dr ?_ | refine Ext.drN ?_ _ | refine Ext.gr ?_ _ | refine Ext.set ?_ (by simp) _ | (refine Ext.trans' ?_ (by assumption))))) (works_any _) fun g13 hgr => ?_
              clear hgr
              go_wp2_with fail
              go_ret
              exact ⟨rfl, HW.out.trans' (grow_below Z0 g13)⟩

            have hz1 : (slo == 0) = false := by simpa using hz0
            go_upto_region 23 with (fail)
            obtain ⟨Z1, hZ1⟩ : ∃ zz9, zz9 = (grow Z0 g91) := ⟨_, rfl⟩
            have eZ1 : Ext Z0 Z1 := by rw [hZ1]; exact (by repeat (first | exact Below.refl _ _ | refine Ext.al ?_ _ | refine Ext.dr ?_ | refine Ext.drN ?_ _ | refine Ext.gr ?_ _ | refine Ext.set ?_ (by simp) _ | (refine Ext.trans' ?_ (by assumption))))
            replace k0 := cell_ext eZ1 k0
            replace k1 := cell_ext eZ1 k1
            replace k2 := cell_ext eZ1 k2
            replace x0 := cell_ext eZ1 x0
            replace x1 := cell_ext eZ1 x1
            replace HS := Lib.hid (HS.out.ext eZ1)
            replace HT := Lib.hid (HT.out.ext eZ1)
            replace HW := Lib.hid (HW.out.trans' eZ1)
            rw [← hZ1]
            replace hz := World.block_lt_of_cell? _ _ k0
            replace zbS := World.block_lt_of_cell? _ _ x0
            clear hZ1 eZ1
            have hw2 : IntKind.i64.wrap (slo - 1) = slo - 1 := IntWalk.i64_in _ (by omega)
            have hw := fun w hs => with_any h (.slice sa h.cs.length cap) ⟨(A : Int), (B : Int), 0, (slo - 1)⟩ w hs (by omega)
            obtain ⟨VW, ag⟩ := agr_withM V.out G.out hlen (a := A) (b := B) (lo := 0) (hi := (slo - 1)) (by omega) (by omega) (by omega) (by omega) (by omega)
            rw [← SHI.out, ← SLO.out, show (decide (0 ≤ shi) && decide (slo ≤ (slo - 1))) = false by simp; omega] at ag
            have c9 := fun sv w hs => agrees_any (withH h ⟨(A : Int), (B : Int), 0, (slo - 1)⟩) sv VW w hs
            rw [ag] at c9
            have C9 := Lib.hid c9
            have CW := Lib.hid hw
            clear hw VW ag c9
            refine wp_region_rove (Z1.heap.size) (Nat.le_refl _)
              [sqV (.agg #[.int .i64 h.n, .int .i64 h.most, .slice sa h.cs.length cap]),
               sqV (.int .i64 A),
               sqV (.int .i64 B),
               sqV (.pointer (some ⟨bS, 0, none⟩)),
               sqV (.int .i64 slo),
               sqV (.int .i64 (slo - 1)),
               sqV (.agg #[.int .i64 A, .int .i64 B, .int .i64 0, .int .i64 (slo - 1)]),
               sqW (fun v W => ∃ sv', v = .agg #[.int .i64 h.n, .int .i64 h.most, sv'] ∧ IsCnts W sv' (h.cs ++ [(⟨(A : Int), (B : Int), 0, slo - 1⟩ : Cnt)])) (fun _ _ _ ⟨sv', h1, h2⟩ e => ⟨sv', h1, h2.ext e⟩),
               sqV (.tuple #[.bool false, .bool true]),
               sqV (.tuple #[.bool false, .bool true]),
               sqV (.bool false),
               sqV (.bool true),
               sqV (.bool false),
               sqV (.bool true)]
              [true, true, true, true, true, true, true, false, true, true, true, true, true, true] [false, false, false, false, false, false, false, false, false, false, false, false, false, false] [true, true, true, true, true, true, true, true, true, true, true, true, true, true] [true, true, true, true, true, true, true, true, true, true, true, true, true, true]
              (by kernel_rfl) (by kernel_rfl) (by decide +kernel) (by decide +kernel) (by decide +kernel) rfl rfl ⟨?s0, ?s1, ?s2, ?s3, ?s4, ?s5, ?s6, ?s7, ?s8, ?s9, ?s10, ?s11, ?s12, ?s13, trivial⟩ [some 158, some 159, some 160, some 161, some 162, some 163, some 164, some 165, some 166, some 157, some 167, some 168, some 17, some 18] rfl rfl ?send
            case s0 =>
              intro val ρ W hE hz hd hA hx
              have o0 : ρ (.tmp 5) = .pointer (some ⟨w.heap.size, 0, none⟩) := hA.old 5 (by decide)
              have f_k0 := cell_below hE (by simp only; omega) k0
              have f_k1 := cell_below hE (by simp only; omega) k1
              have f_k2 := cell_below hE (by simp only; omega) k2
              clear hd
              exact runq_val (W' := W) (by simp [execOp, o0, f_k0, f_k1, f_k2, go_sem]) (Below.refl _ _) rfl
            case s1 =>
              intro val ρ W hE hz hd hA hx
              have o0 : ρ (.tmp 11) = .int .i64 A := hA.old 11 (by decide)
              clear hd
              exact runq_val (W' := W) (by simp [execOp, o0, go_sem]) (Below.refl _ _) rfl
            case s2 =>
              intro val ρ W hE hz hd hA hx
              have o0 : ρ (.tmp 12) = .int .i64 B := hA.old 12 (by decide)
              clear hd
              exact runq_val (W' := W) (by simp [execOp, o0, go_sem]) (Below.refl _ _) rfl
            case s3 =>
              intro val ρ W hE hz hd hA hx
              have o0 : ρ (.tmp 13) = .pointer (some ⟨bS, 0, none⟩) := hA.old 13 (by decide)
              clear hd
              exact runq_val (W' := W) (by simp [execOp, o0, go_sem]) (Below.refl _ _) rfl
            case s4 =>
              intro val ρ W hE hz hd hA hx
              have d3 : ρ (.tmp 161) = .pointer (some ⟨bS, 0, none⟩) := (hA.dep 3 (by decide) 161 rfl).trans (hd 3 (by decide))
              have f_x0 := cell_below hE (by simp only; omega) x0
              clear hd
              exact runq_val (W' := W) (by simp [execOp, d3, f_x0, go_sem]) (Below.refl _ _) rfl
            case s5 =>
              intro val ρ W hE hz hd hA hx
              have d4 : ρ (.tmp 162) = .int .i64 slo := (hA.dep 4 (by decide) 162 rfl).trans (hd 4 (by decide))
              clear hd
              exact runq_val (W' := W) (by simp [execOp, hA.const, d4, hw2, go_sem]) (Below.refl _ _) rfl
            case s6 =>
              intro val ρ W hE hz hd hA hx
              have d1 : ρ (.tmp 159) = .int .i64 A := (hA.dep 1 (by decide) 159 rfl).trans (hd 1 (by decide))
              have d2 : ρ (.tmp 160) = .int .i64 B := (hA.dep 2 (by decide) 160 rfl).trans (hd 2 (by decide))
              have d5 : ρ (.tmp 163) = .int .i64 (slo - 1) := (hA.dep 5 (by decide) 163 rfl).trans (hd 5 (by decide))
              clear hd
              refine runq_call 50 _ _ rfl #[.int .i64 A, .int .i64 B, .int .i64 0, .int .i64 (slo - 1)] (hA.func _) (by simp [d1, d2, d5, hA.const]) (fun args W => Try.call50 args W) ((counter_any _ _ _ _ W).mono ?_)
              rintro e w' ⟨rfl, hb⟩
              exact ⟨_, rfl, hb, rfl⟩
            case s9 =>
              intro val ρ W hE hz hd hA hx
              have d8 : ρ (.tmp 166) = .tuple #[.bool false, .bool true] := (hA.dep 8 (by decide) 166 rfl).trans (hd 8 (by decide))
              clear hd
              exact runq_val (W' := W) (by simp [execOp, d8, go_sem]) (Below.refl _ _) rfl
            case s10 =>
              intro val ρ W hE hz hd hA hx
              have d9 : ρ (.tmp 157) = .tuple #[.bool false, .bool true] := (hA.dep 9 (by decide) 157 rfl).trans (hd 9 (by decide))
              clear hd
              exact runq_val (W' := W) (by simp [execOp, d9, go_sem]) (Below.refl _ _) rfl
            case s11 =>
              intro val ρ W hE hz hd hA hx
              have d9 : ρ (.tmp 157) = .tuple #[.bool false, .bool true] := (hA.dep 9 (by decide) 157 rfl).trans (hd 9 (by decide))
              clear hd
              exact runq_val (W' := W) (by simp [execOp, d9, go_sem]) (Below.refl _ _) rfl
            case s12 =>
              intro val ρ W hE hz hd hA hx
              have d10 : ρ (.tmp 167) = .bool false := (hA.dep 10 (by decide) 167 rfl).trans (hd 10 (by decide))
              clear hd
              exact runq_val (W' := W) (by simp [execOp, d10, go_sem]) (Below.refl _ _) rfl
            case s13 =>
              intro val ρ W hE hz hd hA hx
              have d11 : ρ (.tmp 168) = .bool true := (hA.dep 11 (by decide) 168 rfl).trans (hd 11 (by decide))
              clear hd
              exact runq_val (W' := W) (by simp [execOp, d11, go_sem]) (Below.refl _ _) rfl
            case s7 =>
              intro val ρ W hE hz hd hA hx
              have d0 : ρ (.tmp 158) = .agg #[.int .i64 h.n, .int .i64 h.most, .slice sa h.cs.length cap] := (hA.dep 0 (by decide) 158 rfl).trans (hd 0 (by decide))
              have d5 : ρ (.tmp 164) = .agg #[.int .i64 A, .int .i64 B, .int .i64 (0), .int .i64 (slo - 1)] := (hA.dep 6 (by decide) 164 rfl).trans (hd 6 (by decide))
              clear hd
              refine runq_call 49 _ _ rfl #[.agg #[.int .i64 h.n, .int .i64 h.most, .slice sa h.cs.length cap], .agg #[.int .i64 A, .int .i64 B, .int .i64 (0), .int .i64 (slo - 1)]] (hA.func _) (by simp [d0, d5]) (fun args W => Try.call49 args W) ((CW.out W (HS.out.ext hE)).mono ?_)
              rintro e w' ⟨sv', rfl, hb, hs⟩
              exact ⟨_, rfl, hb, sv', rfl, hs⟩
            case s8 =>
              intro val ρ W hE hz hd hA hx
              obtain ⟨sv', hv6, hs6⟩ : ∃ sv', val 7 = .agg #[.int .i64 h.n, .int .i64 h.most, sv'] ∧ IsCnts W sv' (h.cs ++ [(⟨(A : Int), (B : Int), 0, slo - 1⟩ : Cnt)]) := hd 7 (by decide)
              have d6 : ρ (.tmp 165) = .agg #[.int .i64 h.n, .int .i64 h.most, sv'] := (hA.dep 7 (by decide) 165 rfl).trans hv6
              clear hd
              refine runq_call 48 _ _ rfl #[.agg #[.int .i64 h.n, .int .i64 h.most, sv']] (hA.func _) (by simp [d6]) (fun args W => Try.call48 args W) ((C9.out sv' W hs6).mono ?_)
              rintro e w' ⟨rfl, hb⟩
              exact ⟨_, rfl, hb, rfl⟩
            case send =>
              intro val WW hE hzz hv
              obtain ⟨r0, r1, r2, r3, r4, r5, r6, -, r8, r9, r10, r11, r12, r13, -⟩ := hv
              have q0 : val 0 = .agg #[.int .i64 h.n, .int .i64 h.most, .slice sa h.cs.length cap] := r0
              have q1 : val 1 = .int .i64 A := r1
              have q2 : val 2 = .int .i64 B := r2
              have q3 : val 3 = .pointer (some ⟨bS, 0, none⟩) := r3
              have q4 : val 4 = .int .i64 slo := r4
              have q5 : val 5 = .int .i64 (slo - 1) := r5
              have q6 : val 6 = .agg #[.int .i64 A, .int .i64 B, .int .i64 0, .int .i64 (slo - 1)] := r6
              have q8 : val 8 = .tuple #[.bool false, .bool true] := r8
              have q9 : val 9 = .tuple #[.bool false, .bool true] := r9
              have q10 : val 10 = .bool false := r10
              have q11 : val 11 = .bool true := r11
              have q12 : val 12 = .bool false := r12
              have q13 : val 13 = .bool true := r13
              clear r0 r1 r2 r3 r4 r5 r6 r8 r9 r10 r11 r12 r13
              obtain ⟨g92, rfl⟩ := grow_of hE
              clear hE hzz
              simp only [putD, q0, q1, q2, q3, q4, q5, q6, q8, q9, q10, q11, q12, q13]
              go_frame
              clear q0 q1 q2 q3 q4 q5 q6 q8 q9 q10 q11 q12 q13
              clear C9 CW hw2

              go_wp2_with fail
              refine callW (W0 := Z1) (g := g92) (by exact (by repeat (first | exact Below.refl _ _ | refine Ext.al ?_ _ | refine Ext.dr ?_ | refine Ext.drN ?_ _ | refine Ext.gr ?_ _ | refine Ext.set ?_ (by simp) _ | (refine Ext.trans' ?_ (by assumption))))) (works_any _) fun g14 hgr => ?_
              clear hgr
              go_wp2_with fail
              go_ret
              exact ⟨rfl, HW.out.trans' (grow_below Z1 g14)⟩


    · have hd' : (d == 0) = false := by simpa using hd
      have hd2 : (d != 0) = true := by simpa using hd
      clear hd

      go_wp2_with fail
      refine callW (W0 := X0) (g := ⟨X0, Below.refl _ _⟩) (by exact (by repeat (first | exact Below.refl _ _ | refine Ext.al ?_ _ | refine Ext.dr ?_ | refine Ext.drN ?_ _ | refine Ext.gr ?_ _ | refine Ext.set ?_ (by simp) _ | (refine Ext.trans' ?_ (by assumption))))) (D3.out _ (HS.out.ext (by exact (by repeat (first | exact Below.refl _ _ | refine Ext.al ?_ _ | refine Ext.dr ?_ | refine Ext.drN ?_ _ | refine Ext.gr ?_ _ | refine Ext.set ?_ (by simp) _ | (refine Ext.trans' ?_ (by assumption)))))) (HT.out.ext (by exact (by repeat (first | exact Below.refl _ _ | refine Ext.al ?_ _ | refine Ext.dr ?_ | refine Ext.drN ?_ _ | refine Ext.gr ?_ _ | refine Ext.set ?_ (by simp) _ | (refine Ext.trans' ?_ (by assumption))))))) fun g15 hgr => ?_
      clear hgr
      go_upto_region 14 with (fail)
      obtain ⟨r, hr⟩ : ∃ r, at_ % (shi - slo + 1) = r := ⟨_, rfl⟩
      have r0 : 0 ≤ r := by rw [← hr]; exact Int.emod_nonneg _ (by omega)
      have r1 : r ≤ shi - slo := by have := Int.emod_lt_of_pos at_ (show 0 < shi - slo + 1 by omega); omega
      go_quiet (fail)
      obtain ⟨n, hn⟩ : ∃ n, slo + r = n := ⟨_, rfl⟩
      go_upto_region 15 with (fail)
      simp only [hn]
      have hn0 : 0 ≤ n := by omega
      have hn1 : n ≤ 10000000 := by omega
      have hn2 : slo ≤ n := by omega
      have hn3 : n ≤ shi := by omega
      clear hr r0 r1 hn
      obtain ⟨Y0, hY0⟩ : ∃ zz9, zz9 = (grow X0 g15).drewN nq := ⟨_, rfl⟩
      have eY0 : Ext X0 Y0 := by rw [hY0]; exact (by repeat (first | exact Below.refl _ _ | refine Ext.al ?_ _ | refine Ext.dr ?_ | refine Ext.drN ?_ _ | refine Ext.gr ?_ _ | refine Ext.set ?_ (by simp) _ | (refine Ext.trans' ?_ (by assumption))))
      replace k0 := cell_ext eY0 k0
      replace k1 := cell_ext eY0 k1
      replace k2 := cell_ext eY0 k2
      replace x0 := cell_ext eY0 x0
      replace x1 := cell_ext eY0 x1
      replace HS := Lib.hid (HS.out.ext eY0)
      replace HT := Lib.hid (HT.out.ext eY0)
      replace HW := Lib.hid (HW.out.trans' eY0)
      rw [← hY0]
      replace hz := World.block_lt_of_cell? _ _ k0
      replace zbS := World.block_lt_of_cell? _ _ x0
      clear hY0 eY0
      have hw := fun w hs => with_any h (.slice sa h.cs.length cap) ⟨(A : Int), (B : Int), n, n⟩ w hs (by omega)
      obtain ⟨VW, ag⟩ := agr_withM V.out G.out hlen (a := A) (b := B) (lo := n) (hi := n) (by omega) (by omega) (by omega) (by omega) (by omega)
      rw [← SHI.out, ← SLO.out, show (decide (n ≤ shi) && decide (slo ≤ n)) = true by simp; omega] at ag
      have c9 := fun sv w hs => agrees_any (withH h ⟨(A : Int), (B : Int), n, n⟩) sv VW w hs
      rw [ag] at c9
      have C9 := Lib.hid c9
      have CW := Lib.hid hw
      clear hw VW ag c9
      refine wp_region_rove (Y0.heap.size) (Nat.le_refl _)
        [sqV (.agg #[.int .i64 h.n, .int .i64 h.most, .slice sa h.cs.length cap]),
         sqV (.int .i64 A),
         sqV (.int .i64 B),
         sqV (.int .i64 n),
         sqV (.int .i64 n),
         sqV (.agg #[.int .i64 A, .int .i64 B, .int .i64 n, .int .i64 n]),
         sqW (fun v W => ∃ sv', v = .agg #[.int .i64 h.n, .int .i64 h.most, sv'] ∧ IsCnts W sv' (h.cs ++ [⟨(A : Int), (B : Int), n, n⟩])) (fun _ _ _ ⟨sv', h1, h2⟩ e => ⟨sv', h1, h2.ext e⟩),
         sqV (.tuple #[.bool true, .bool true]),
         sqV (.tuple #[.bool true, .bool true]),
         sqV (.bool true),
         sqV (.bool true),
         sqV (.bool true),
         sqV (.bool true)]
        [true, true, true, true, true, true, false, true, true, true, true, true, true] [false, false, false, false, false, false, false, false, false, false, false, false, false] [true, true, true, true, true, true, true, true, true, true, true, true, true] [true, true, true, true, true, true, true, true, true, true, true, true, true]
        (by kernel_rfl) (by kernel_rfl) (by decide +kernel) (by decide +kernel) (by decide +kernel) rfl rfl ⟨?s0, ?s1, ?s2, ?s3, ?s4, ?s5, ?s6, ?s7, ?s8, ?s9, ?s10, ?s11, ?s12, trivial⟩ [some 114, some 115, some 116, some 117, some 118, some 119, some 120, some 121, some 113, some 122, some 123, some 17, some 18] rfl rfl ?send
      case s0 =>
        intro val ρ W hE hz hd hA hx
        have o0 : ρ (.tmp 5) = .pointer (some ⟨w.heap.size, 0, none⟩) := hA.old 5 (by decide)
        have f_k0 := cell_below hE (by simp only; omega) k0
        have f_k1 := cell_below hE (by simp only; omega) k1
        have f_k2 := cell_below hE (by simp only; omega) k2
        clear hd
        exact runq_val (W' := W) (by simp [execOp, o0, f_k0, f_k1, f_k2, go_sem]) (Below.refl _ _) rfl
      case s1 =>
        intro val ρ W hE hz hd hA hx
        have o0 : ρ (.tmp 11) = .int .i64 A := hA.old 11 (by decide)
        clear hd
        exact runq_val (W' := W) (by simp [execOp, o0, go_sem]) (Below.refl _ _) rfl
      case s2 =>
        intro val ρ W hE hz hd hA hx
        have o0 : ρ (.tmp 12) = .int .i64 B := hA.old 12 (by decide)
        clear hd
        exact runq_val (W' := W) (by simp [execOp, o0, go_sem]) (Below.refl _ _) rfl
      case s3 =>
        intro val ρ W hE hz hd hA hx
        have o0 : ρ (.tmp 16) = .int .i64 n := hA.old 16 (by decide)
        clear hd
        exact runq_val (W' := W) (by simp [execOp, o0, go_sem]) (Below.refl _ _) rfl
      case s4 =>
        intro val ρ W hE hz hd hA hx
        have o0 : ρ (.tmp 16) = .int .i64 n := hA.old 16 (by decide)
        clear hd
        exact runq_val (W' := W) (by simp [execOp, o0, go_sem]) (Below.refl _ _) rfl
      case s5 =>
        intro val ρ W hE hz hd hA hx
        have d1 : ρ (.tmp 115) = .int .i64 A := (hA.dep 1 (by decide) 115 rfl).trans (hd 1 (by decide))
        have d2 : ρ (.tmp 116) = .int .i64 B := (hA.dep 2 (by decide) 116 rfl).trans (hd 2 (by decide))
        have d3 : ρ (.tmp 117) = .int .i64 n := (hA.dep 3 (by decide) 117 rfl).trans (hd 3 (by decide))
        have d4 : ρ (.tmp 118) = .int .i64 n := (hA.dep 4 (by decide) 118 rfl).trans (hd 4 (by decide))
        clear hd
        refine runq_call 50 _ _ rfl #[.int .i64 A, .int .i64 B, .int .i64 n, .int .i64 n] (hA.func _) (by simp [d1, d2, d3, d4]) (fun args W => Try.call50 args W) ((counter_any _ _ _ _ W).mono ?_)
        rintro e w' ⟨rfl, hb⟩
        exact ⟨_, rfl, hb, rfl⟩
      case s8 =>
        intro val ρ W hE hz hd hA hx
        have d7 : ρ (.tmp 121) = .tuple #[.bool true, .bool true] := (hA.dep 7 (by decide) 121 rfl).trans (hd 7 (by decide))
        clear hd
        exact runq_val (W' := W) (by simp [execOp, d7, go_sem]) (Below.refl _ _) rfl
      case s9 =>
        intro val ρ W hE hz hd hA hx
        have d8 : ρ (.tmp 113) = .tuple #[.bool true, .bool true] := (hA.dep 8 (by decide) 113 rfl).trans (hd 8 (by decide))
        clear hd
        exact runq_val (W' := W) (by simp [execOp, d8, go_sem]) (Below.refl _ _) rfl
      case s10 =>
        intro val ρ W hE hz hd hA hx
        have d8 : ρ (.tmp 113) = .tuple #[.bool true, .bool true] := (hA.dep 8 (by decide) 113 rfl).trans (hd 8 (by decide))
        clear hd
        exact runq_val (W' := W) (by simp [execOp, d8, go_sem]) (Below.refl _ _) rfl
      case s11 =>
        intro val ρ W hE hz hd hA hx
        have d9 : ρ (.tmp 122) = .bool true := (hA.dep 9 (by decide) 122 rfl).trans (hd 9 (by decide))
        clear hd
        exact runq_val (W' := W) (by simp [execOp, d9, go_sem]) (Below.refl _ _) rfl
      case s12 =>
        intro val ρ W hE hz hd hA hx
        have d10 : ρ (.tmp 123) = .bool true := (hA.dep 10 (by decide) 123 rfl).trans (hd 10 (by decide))
        clear hd
        exact runq_val (W' := W) (by simp [execOp, d10, go_sem]) (Below.refl _ _) rfl
      case s6 =>
        intro val ρ W hE hz hd hA hx
        have d0 : ρ (.tmp 114) = .agg #[.int .i64 h.n, .int .i64 h.most, .slice sa h.cs.length cap] := (hA.dep 0 (by decide) 114 rfl).trans (hd 0 (by decide))
        have d5 : ρ (.tmp 119) = .agg #[.int .i64 A, .int .i64 B, .int .i64 (n), .int .i64 (n)] := (hA.dep 5 (by decide) 119 rfl).trans (hd 5 (by decide))
        clear hd
        refine runq_call 49 _ _ rfl #[.agg #[.int .i64 h.n, .int .i64 h.most, .slice sa h.cs.length cap], .agg #[.int .i64 A, .int .i64 B, .int .i64 (n), .int .i64 (n)]] (hA.func _) (by simp [d0, d5]) (fun args W => Try.call49 args W) ((CW.out W (HS.out.ext hE)).mono ?_)
        rintro e w' ⟨sv', rfl, hb, hs⟩
        exact ⟨_, rfl, hb, sv', rfl, hs⟩
      case s7 =>
        intro val ρ W hE hz hd hA hx
        obtain ⟨sv', hv6, hs6⟩ : ∃ sv', val 6 = .agg #[.int .i64 h.n, .int .i64 h.most, sv'] ∧ IsCnts W sv' (h.cs ++ [(⟨(A : Int), (B : Int), n, n⟩ : Cnt)]) := hd 6 (by decide)
        have d6 : ρ (.tmp 120) = .agg #[.int .i64 h.n, .int .i64 h.most, sv'] := (hA.dep 6 (by decide) 120 rfl).trans hv6
        clear hd
        refine runq_call 48 _ _ rfl #[.agg #[.int .i64 h.n, .int .i64 h.most, sv']] (hA.func _) (by simp [d6]) (fun args W => Try.call48 args W) ((C9.out sv' W hs6).mono ?_)
        rintro e w' ⟨rfl, hb⟩
        exact ⟨_, rfl, hb, rfl⟩
      case send =>
        intro val WW hE hzz hv
        obtain ⟨r0, r1, r2, r3, r4, r5, -, r7, r8, r9, r10, r11, r12, -⟩ := hv
        have q0 : val 0 = .agg #[.int .i64 h.n, .int .i64 h.most, .slice sa h.cs.length cap] := r0
        have q1 : val 1 = .int .i64 A := r1
        have q2 : val 2 = .int .i64 B := r2
        have q3 : val 3 = .int .i64 n := r3
        have q4 : val 4 = .int .i64 n := r4
        have q5 : val 5 = .agg #[.int .i64 A, .int .i64 B, .int .i64 n, .int .i64 n] := r5
        have q7 : val 7 = .tuple #[.bool true, .bool true] := r7
        have q8 : val 8 = .tuple #[.bool true, .bool true] := r8
        have q9 : val 9 = .bool true := r9
        have q10 : val 10 = .bool true := r10
        have q11 : val 11 = .bool true := r11
        have q12 : val 12 = .bool true := r12
        clear r0 r1 r2 r3 r4 r5 r7 r8 r9 r10 r11 r12
        obtain ⟨g90, rfl⟩ := grow_of hE
        clear hE hzz
        simp only [putD, q0, q1, q2, q3, q4, q5, q7, q8, q9, q10, q11, q12]
        go_frame
        clear q0 q1 q2 q3 q4 q5 q7 q8 q9 q10 q11 q12

        go_upto_region 18 with (fail)
        obtain ⟨Z0, hZ0⟩ : ∃ zz9, zz9 = (grow Y0 g90) := ⟨_, rfl⟩
        have eZ0 : Ext Y0 Z0 := by rw [hZ0]; exact (by repeat (first | exact Below.refl _ _ | refine Ext.al ?_ _ | refine Ext.dr ?_ | refine Ext.drN ?_ _ | refine Ext.gr ?_ _ | refine Ext.set ?_ (by simp) _ | (refine Ext.trans' ?_ (by assumption))))
        replace k0 := cell_ext eZ0 k0
        replace k1 := cell_ext eZ0 k1
        replace k2 := cell_ext eZ0 k2
        replace x0 := cell_ext eZ0 x0
        replace x1 := cell_ext eZ0 x1
        replace HS := Lib.hid (HS.out.ext eZ0)
        replace HT := Lib.hid (HT.out.ext eZ0)
        replace HW := Lib.hid (HW.out.trans' eZ0)
        rw [← hZ0]
        replace hz := World.block_lt_of_cell? _ _ k0
        replace zbS := World.block_lt_of_cell? _ _ x0
        clear hZ0 eZ0
        clear C9 CW
        have hw1 : IntKind.i64.wrap (shi + 1) = shi + 1 := IntWalk.i64_in _ (by omega)
        by_cases hmx : shi < 10000000
        · have hm1' : ((10000000 : Int) < shi + 1) = False := eq_false (by omega)

          have hw := fun w hs => with_any h (.slice sa h.cs.length cap) ⟨(A : Int), (B : Int), (shi + 1), 10000000⟩ w hs (by omega)
          obtain ⟨VW, ag⟩ := agr_withM V.out G.out hlen (a := A) (b := B) (lo := (shi + 1)) (hi := 10000000) (by omega) (by omega) (by omega) (by omega) (by omega)
          rw [← SHI.out, ← SLO.out, show (decide ((shi + 1) ≤ shi) && decide (slo ≤ 10000000)) = false by simp; omega] at ag
          have c9 := fun sv w hs => agrees_any (withH h ⟨(A : Int), (B : Int), (shi + 1), 10000000⟩) sv VW w hs
          rw [ag] at c9
          have C9 := Lib.hid c9
          have CW := Lib.hid hw
          clear hw VW ag c9
          refine wp_region_rove (Z0.heap.size) (Nat.le_refl _)
            [sqV (.agg #[.int .i64 h.n, .int .i64 h.most, .slice sa h.cs.length cap]),
             sqV (.int .i64 A),
             sqV (.int .i64 B),
             sqV (.pointer (some ⟨bS, 1, none⟩)),
             sqV (.int .i64 shi),
             sqV (.int .i64 (shi + 1)),
             sqV (.int .i64 (shi + 1)),
             sqV (.agg #[.int .i64 A, .int .i64 B, .int .i64 (shi + 1), .int .i64 10000000]),
             sqW (fun v W => ∃ sv', v = .agg #[.int .i64 h.n, .int .i64 h.most, sv'] ∧ IsCnts W sv' (h.cs ++ [(⟨(A : Int), (B : Int), (shi + 1), 10000000⟩ : Cnt)])) (fun _ _ _ ⟨sv', h1, h2⟩ e => ⟨sv', h1, h2.ext e⟩),
             sqV (.tuple #[.bool false, .bool true]),
             sqV (.tuple #[.bool false, .bool true]),
             sqV (.bool false),
             sqV (.bool true),
             sqV (.bool false),
             sqV (.bool true)]
            [true, true, true, true, true, true, true, true, false, true, true, true, true, true, true] [false, false, false, false, false, false, false, false, false, false, false, false, false, false, false] [true, true, true, true, true, true, true, true, true, true, true, true, true, true, true] [true, true, true, true, true, true, true, true, true, true, true, true, true, true, true]
            (by kernel_rfl) (by kernel_rfl) (by decide +kernel) (by decide +kernel) (by decide +kernel) rfl rfl ⟨?s0, ?s1, ?s2, ?s3, ?s4, ?s5, ?s6, ?s7, ?s8, ?s9, ?s10, ?s11, ?s12, ?s13, ?s14, trivial⟩ [some 131, some 132, some 133, some 134, some 135, some 136, some 137, some 138, some 139, some 140, some 130, some 141, some 142, some 17, some 18] rfl rfl ?send
          case s0 =>
            intro val ρ W hE hz hd hA hx
            have o0 : ρ (.tmp 5) = .pointer (some ⟨w.heap.size, 0, none⟩) := hA.old 5 (by decide)
            have f_k0 := cell_below hE (by simp only; omega) k0
            have f_k1 := cell_below hE (by simp only; omega) k1
            have f_k2 := cell_below hE (by simp only; omega) k2
            clear hd
            exact runq_val (W' := W) (by simp [execOp, o0, f_k0, f_k1, f_k2, go_sem]) (Below.refl _ _) rfl
          case s1 =>
            intro val ρ W hE hz hd hA hx
            have o0 : ρ (.tmp 11) = .int .i64 A := hA.old 11 (by decide)
            clear hd
            exact runq_val (W' := W) (by simp [execOp, o0, go_sem]) (Below.refl _ _) rfl
          case s2 =>
            intro val ρ W hE hz hd hA hx
            have o0 : ρ (.tmp 12) = .int .i64 B := hA.old 12 (by decide)
            clear hd
            exact runq_val (W' := W) (by simp [execOp, o0, go_sem]) (Below.refl _ _) rfl
          case s3 =>
            intro val ρ W hE hz hd hA hx
            have o0 : ρ (.tmp 13) = .pointer (some ⟨bS, 0, none⟩) := hA.old 13 (by decide)
            clear hd
            exact runq_val (W' := W) (by simp [execOp, o0, go_sem]) (Below.refl _ _) rfl
          case s4 =>
            intro val ρ W hE hz hd hA hx
            have d3 : ρ (.tmp 134) = .pointer (some ⟨bS, 1, none⟩) := (hA.dep 3 (by decide) 134 rfl).trans (hd 3 (by decide))
            have f_x1 := cell_below hE (by simp only; omega) x1
            clear hd
            exact runq_val (W' := W) (by simp [execOp, d3, f_x1, go_sem]) (Below.refl _ _) rfl
          case s5 =>
            intro val ρ W hE hz hd hA hx
            have d4 : ρ (.tmp 135) = .int .i64 shi := (hA.dep 4 (by decide) 135 rfl).trans (hd 4 (by decide))
            clear hd
            exact runq_val (W' := W) (by simp [execOp, hA.const, d4, hw1, go_sem]) (Below.refl _ _) rfl
          case s6 =>
            intro val ρ W hE hz hd hA hx
            have d5 : ρ (.tmp 136) = .int .i64 (shi + 1) := (hA.dep 5 (by decide) 136 rfl).trans (hd 5 (by decide))
            clear hd
            exact runq_val (W' := W) (by simp [execOp, hA.const, d5, hm1', Builtin.min_, Builtin.min2, go_sem]) (Below.refl _ _) rfl
          case s7 =>
            intro val ρ W hE hz hd hA hx
            have d1 : ρ (.tmp 132) = .int .i64 A := (hA.dep 1 (by decide) 132 rfl).trans (hd 1 (by decide))
            have d2 : ρ (.tmp 133) = .int .i64 B := (hA.dep 2 (by decide) 133 rfl).trans (hd 2 (by decide))
            have d6 : ρ (.tmp 137) = .int .i64 (shi + 1) := (hA.dep 6 (by decide) 137 rfl).trans (hd 6 (by decide))
            clear hd
            refine runq_call 50 _ _ rfl #[.int .i64 A, .int .i64 B, .int .i64 (shi + 1), .int .i64 10000000] (hA.func _) (by simp [d1, d2, d6, hA.const]) (fun args W => Try.call50 args W) ((counter_any _ _ _ _ W).mono ?_)
            rintro e w' ⟨rfl, hb⟩
            exact ⟨_, rfl, hb, rfl⟩
          case s10 =>
            intro val ρ W hE hz hd hA hx
            have d9 : ρ (.tmp 140) = .tuple #[.bool false, .bool true] := (hA.dep 9 (by decide) 140 rfl).trans (hd 9 (by decide))
            clear hd
            exact runq_val (W' := W) (by simp [execOp, d9, go_sem]) (Below.refl _ _) rfl
          case s11 =>
            intro val ρ W hE hz hd hA hx
            have d10 : ρ (.tmp 130) = .tuple #[.bool false, .bool true] := (hA.dep 10 (by decide) 130 rfl).trans (hd 10 (by decide))
            clear hd
            exact runq_val (W' := W) (by simp [execOp, d10, go_sem]) (Below.refl _ _) rfl
          case s12 =>
            intro val ρ W hE hz hd hA hx
            have d10 : ρ (.tmp 130) = .tuple #[.bool false, .bool true] := (hA.dep 10 (by decide) 130 rfl).trans (hd 10 (by decide))
            clear hd
            exact runq_val (W' := W) (by simp [execOp, d10, go_sem]) (Below.refl _ _) rfl
          case s13 =>
            intro val ρ W hE hz hd hA hx
            have d11 : ρ (.tmp 141) = .bool false := (hA.dep 11 (by decide) 141 rfl).trans (hd 11 (by decide))
            clear hd
            exact runq_val (W' := W) (by simp [execOp, d11, go_sem]) (Below.refl _ _) rfl
          case s14 =>
            intro val ρ W hE hz hd hA hx
            have d12 : ρ (.tmp 142) = .bool true := (hA.dep 12 (by decide) 142 rfl).trans (hd 12 (by decide))
            clear hd
            exact runq_val (W' := W) (by simp [execOp, d12, go_sem]) (Below.refl _ _) rfl
          case s8 =>
            intro val ρ W hE hz hd hA hx
            have d0 : ρ (.tmp 131) = .agg #[.int .i64 h.n, .int .i64 h.most, .slice sa h.cs.length cap] := (hA.dep 0 (by decide) 131 rfl).trans (hd 0 (by decide))
            have d5 : ρ (.tmp 138) = .agg #[.int .i64 A, .int .i64 B, .int .i64 ((shi + 1)), .int .i64 (10000000)] := (hA.dep 7 (by decide) 138 rfl).trans (hd 7 (by decide))
            clear hd
            refine runq_call 49 _ _ rfl #[.agg #[.int .i64 h.n, .int .i64 h.most, .slice sa h.cs.length cap], .agg #[.int .i64 A, .int .i64 B, .int .i64 ((shi + 1)), .int .i64 (10000000)]] (hA.func _) (by simp [d0, d5]) (fun args W => Try.call49 args W) ((CW.out W (HS.out.ext hE)).mono ?_)
            rintro e w' ⟨sv', rfl, hb, hs⟩
            exact ⟨_, rfl, hb, sv', rfl, hs⟩
          case s9 =>
            intro val ρ W hE hz hd hA hx
            obtain ⟨sv', hv6, hs6⟩ : ∃ sv', val 8 = .agg #[.int .i64 h.n, .int .i64 h.most, sv'] ∧ IsCnts W sv' (h.cs ++ [(⟨(A : Int), (B : Int), (shi + 1), 10000000⟩ : Cnt)]) := hd 8 (by decide)
            have d6 : ρ (.tmp 139) = .agg #[.int .i64 h.n, .int .i64 h.most, sv'] := (hA.dep 8 (by decide) 139 rfl).trans hv6
            clear hd
            refine runq_call 48 _ _ rfl #[.agg #[.int .i64 h.n, .int .i64 h.most, sv']] (hA.func _) (by simp [d6]) (fun args W => Try.call48 args W) ((C9.out sv' W hs6).mono ?_)
            rintro e w' ⟨rfl, hb⟩
            exact ⟨_, rfl, hb, rfl⟩
          case send =>
            intro val WW hE hzz hv
            obtain ⟨r0, r1, r2, r3, r4, r5, r6, r7, -, r9, r10, r11, r12, r13, r14, -⟩ := hv
            have q0 : val 0 = .agg #[.int .i64 h.n, .int .i64 h.most, .slice sa h.cs.length cap] := r0
            have q1 : val 1 = .int .i64 A := r1
            have q2 : val 2 = .int .i64 B := r2
            have q3 : val 3 = .pointer (some ⟨bS, 1, none⟩) := r3
            have q4 : val 4 = .int .i64 shi := r4
            have q5 : val 5 = .int .i64 (shi + 1) := r5
            have q6 : val 6 = .int .i64 (shi + 1) := r6
            have q7 : val 7 = .agg #[.int .i64 A, .int .i64 B, .int .i64 (shi + 1), .int .i64 10000000] := r7
            have q9 : val 9 = .tuple #[.bool false, .bool true] := r9
            have q10 : val 10 = .tuple #[.bool false, .bool true] := r10
            have q11 : val 11 = .bool false := r11
            have q12 : val 12 = .bool true := r12
            have q13 : val 13 = .bool false := r13
            have q14 : val 14 = .bool true := r14
            clear r0 r1 r2 r3 r4 r5 r6 r7 r9 r10 r11 r12 r13 r14
            obtain ⟨g91, rfl⟩ := grow_of hE
            clear hE hzz
            simp only [putD, q0, q1, q2, q3, q4, q5, q6, q7, q9, q10, q11, q12, q13, q14]
            go_frame
            clear q0 q1 q2 q3 q4 q5 q6 q7 q9 q10 q11 q12 q13 q14
            clear C9 CW hw1 hm1'

            go_upto_region 21 with (fail)
            by_cases hz0 : slo = 0
            · have hz1 : (slo == 0) = true := by simpa using hz0

              go_wp2_with fail
              refine callW (W0 := Z0) (g := g91) (by exact (by repeat (first | exact Below.refl _ _ | refine Ext.al ?_ _ | refine Ext.dr ?_ | refine Ext.drN ?_ _ | refine Ext.gr ?_ _ | refine Ext.set ?_ (by simp) _ | (refine Ext.trans' ?_ (by assumption))))) (works_any _) fun g16 hgr => ?_
              clear hgr
              go_wp2_with fail
              go_ret
              exact ⟨rfl, HW.out.trans' (grow_below Z0 g16)⟩

            have hz1 : (slo == 0) = false := by simpa using hz0
            go_upto_region 23 with (fail)
            obtain ⟨Z1, hZ1⟩ : ∃ zz9, zz9 = (grow Z0 g91) := ⟨_, rfl⟩
            have eZ1 : Ext Z0 Z1 := by rw [hZ1]; exact (by repeat (first | exact Below.refl _ _ | refine Ext.al ?_ _ | refine Ext.dr ?_ | refine Ext.drN ?_ _ | refine Ext.gr ?_ _ | refine Ext.set ?_ (by simp) _ | (refine Ext.trans' ?_ (by assumption))))
            replace k0 := cell_ext eZ1 k0
            replace k1 := cell_ext eZ1 k1
            replace k2 := cell_ext eZ1 k2
            replace x0 := cell_ext eZ1 x0
            replace x1 := cell_ext eZ1 x1
            replace HS := Lib.hid (HS.out.ext eZ1)
            replace HT := Lib.hid (HT.out.ext eZ1)
            replace HW := Lib.hid (HW.out.trans' eZ1)
            rw [← hZ1]
            replace hz := World.block_lt_of_cell? _ _ k0
            replace zbS := World.block_lt_of_cell? _ _ x0
            clear hZ1 eZ1
            have hw2 : IntKind.i64.wrap (slo - 1) = slo - 1 := IntWalk.i64_in _ (by omega)
            have hw := fun w hs => with_any h (.slice sa h.cs.length cap) ⟨(A : Int), (B : Int), 0, (slo - 1)⟩ w hs (by omega)
            obtain ⟨VW, ag⟩ := agr_withM V.out G.out hlen (a := A) (b := B) (lo := 0) (hi := (slo - 1)) (by omega) (by omega) (by omega) (by omega) (by omega)
            rw [← SHI.out, ← SLO.out, show (decide (0 ≤ shi) && decide (slo ≤ (slo - 1))) = false by simp; omega] at ag
            have c9 := fun sv w hs => agrees_any (withH h ⟨(A : Int), (B : Int), 0, (slo - 1)⟩) sv VW w hs
            rw [ag] at c9
            have C9 := Lib.hid c9
            have CW := Lib.hid hw
            clear hw VW ag c9
            refine wp_region_rove (Z1.heap.size) (Nat.le_refl _)
              [sqV (.agg #[.int .i64 h.n, .int .i64 h.most, .slice sa h.cs.length cap]),
               sqV (.int .i64 A),
               sqV (.int .i64 B),
               sqV (.pointer (some ⟨bS, 0, none⟩)),
               sqV (.int .i64 slo),
               sqV (.int .i64 (slo - 1)),
               sqV (.agg #[.int .i64 A, .int .i64 B, .int .i64 0, .int .i64 (slo - 1)]),
               sqW (fun v W => ∃ sv', v = .agg #[.int .i64 h.n, .int .i64 h.most, sv'] ∧ IsCnts W sv' (h.cs ++ [(⟨(A : Int), (B : Int), 0, slo - 1⟩ : Cnt)])) (fun _ _ _ ⟨sv', h1, h2⟩ e => ⟨sv', h1, h2.ext e⟩),
               sqV (.tuple #[.bool false, .bool true]),
               sqV (.tuple #[.bool false, .bool true]),
               sqV (.bool false),
               sqV (.bool true),
               sqV (.bool false),
               sqV (.bool true)]
              [true, true, true, true, true, true, true, false, true, true, true, true, true, true] [false, false, false, false, false, false, false, false, false, false, false, false, false, false] [true, true, true, true, true, true, true, true, true, true, true, true, true, true] [true, true, true, true, true, true, true, true, true, true, true, true, true, true]
              (by kernel_rfl) (by kernel_rfl) (by decide +kernel) (by decide +kernel) (by decide +kernel) rfl rfl ⟨?s0, ?s1, ?s2, ?s3, ?s4, ?s5, ?s6, ?s7, ?s8, ?s9, ?s10, ?s11, ?s12, ?s13, trivial⟩ [some 158, some 159, some 160, some 161, some 162, some 163, some 164, some 165, some 166, some 157, some 167, some 168, some 17, some 18] rfl rfl ?send
            case s0 =>
              intro val ρ W hE hz hd hA hx
              have o0 : ρ (.tmp 5) = .pointer (some ⟨w.heap.size, 0, none⟩) := hA.old 5 (by decide)
              have f_k0 := cell_below hE (by simp only; omega) k0
              have f_k1 := cell_below hE (by simp only; omega) k1
              have f_k2 := cell_below hE (by simp only; omega) k2
              clear hd
              exact runq_val (W' := W) (by simp [execOp, o0, f_k0, f_k1, f_k2, go_sem]) (Below.refl _ _) rfl
            case s1 =>
              intro val ρ W hE hz hd hA hx
              have o0 : ρ (.tmp 11) = .int .i64 A := hA.old 11 (by decide)
              clear hd
              exact runq_val (W' := W) (by simp [execOp, o0, go_sem]) (Below.refl _ _) rfl
            case s2 =>
              intro val ρ W hE hz hd hA hx
              have o0 : ρ (.tmp 12) = .int .i64 B := hA.old 12 (by decide)
              clear hd
              exact runq_val (W' := W) (by simp [execOp, o0, go_sem]) (Below.refl _ _) rfl
            case s3 =>
              intro val ρ W hE hz hd hA hx
              have o0 : ρ (.tmp 13) = .pointer (some ⟨bS, 0, none⟩) := hA.old 13 (by decide)
              clear hd
              exact runq_val (W' := W) (by simp [execOp, o0, go_sem]) (Below.refl _ _) rfl
            case s4 =>
              intro val ρ W hE hz hd hA hx
              have d3 : ρ (.tmp 161) = .pointer (some ⟨bS, 0, none⟩) := (hA.dep 3 (by decide) 161 rfl).trans (hd 3 (by decide))
              have f_x0 := cell_below hE (by simp only; omega) x0
              clear hd
              exact runq_val (W' := W) (by simp [execOp, d3, f_x0, go_sem]) (Below.refl _ _) rfl
            case s5 =>
              intro val ρ W hE hz hd hA hx
              have d4 : ρ (.tmp 162) = .int .i64 slo := (hA.dep 4 (by decide) 162 rfl).trans (hd 4 (by decide))
              clear hd
              exact runq_val (W' := W) (by simp [execOp, hA.const, d4, hw2, go_sem]) (Below.refl _ _) rfl
            case s6 =>
              intro val ρ W hE hz hd hA hx
              have d1 : ρ (.tmp 159) = .int .i64 A := (hA.dep 1 (by decide) 159 rfl).trans (hd 1 (by decide))
              have d2 : ρ (.tmp 160) = .int .i64 B := (hA.dep 2 (by decide) 160 rfl).trans (hd 2 (by decide))
              have d5 : ρ (.tmp 163) = .int .i64 (slo - 1) := (hA.dep 5 (by decide) 163 rfl).trans (hd 5 (by decide))
              clear hd
              refine runq_call 50 _ _ rfl #[.int .i64 A, .int .i64 B, .int .i64 0, .int .i64 (slo - 1)] (hA.func _) (by simp [d1, d2, d5, hA.const]) (fun args W => Try.call50 args W) ((counter_any _ _ _ _ W).mono ?_)
              rintro e w' ⟨rfl, hb⟩
              exact ⟨_, rfl, hb, rfl⟩
            case s9 =>
              intro val ρ W hE hz hd hA hx
              have d8 : ρ (.tmp 166) = .tuple #[.bool false, .bool true] := (hA.dep 8 (by decide) 166 rfl).trans (hd 8 (by decide))
              clear hd
              exact runq_val (W' := W) (by simp [execOp, d8, go_sem]) (Below.refl _ _) rfl
            case s10 =>
              intro val ρ W hE hz hd hA hx
              have d9 : ρ (.tmp 157) = .tuple #[.bool false, .bool true] := (hA.dep 9 (by decide) 157 rfl).trans (hd 9 (by decide))
              clear hd
              exact runq_val (W' := W) (by simp [execOp, d9, go_sem]) (Below.refl _ _) rfl
            case s11 =>
              intro val ρ W hE hz hd hA hx
              have d9 : ρ (.tmp 157) = .tuple #[.bool false, .bool true] := (hA.dep 9 (by decide) 157 rfl).trans (hd 9 (by decide))
              clear hd
              exact runq_val (W' := W) (by simp [execOp, d9, go_sem]) (Below.refl _ _) rfl
            case s12 =>
              intro val ρ W hE hz hd hA hx
              have d10 : ρ (.tmp 167) = .bool false := (hA.dep 10 (by decide) 167 rfl).trans (hd 10 (by decide))
              clear hd
              exact runq_val (W' := W) (by simp [execOp, d10, go_sem]) (Below.refl _ _) rfl
            case s13 =>
              intro val ρ W hE hz hd hA hx
              have d11 : ρ (.tmp 168) = .bool true := (hA.dep 11 (by decide) 168 rfl).trans (hd 11 (by decide))
              clear hd
              exact runq_val (W' := W) (by simp [execOp, d11, go_sem]) (Below.refl _ _) rfl
            case s7 =>
              intro val ρ W hE hz hd hA hx
              have d0 : ρ (.tmp 158) = .agg #[.int .i64 h.n, .int .i64 h.most, .slice sa h.cs.length cap] := (hA.dep 0 (by decide) 158 rfl).trans (hd 0 (by decide))
              have d5 : ρ (.tmp 164) = .agg #[.int .i64 A, .int .i64 B, .int .i64 (0), .int .i64 (slo - 1)] := (hA.dep 6 (by decide) 164 rfl).trans (hd 6 (by decide))
              clear hd
              refine runq_call 49 _ _ rfl #[.agg #[.int .i64 h.n, .int .i64 h.most, .slice sa h.cs.length cap], .agg #[.int .i64 A, .int .i64 B, .int .i64 (0), .int .i64 (slo - 1)]] (hA.func _) (by simp [d0, d5]) (fun args W => Try.call49 args W) ((CW.out W (HS.out.ext hE)).mono ?_)
              rintro e w' ⟨sv', rfl, hb, hs⟩
              exact ⟨_, rfl, hb, sv', rfl, hs⟩
            case s8 =>
              intro val ρ W hE hz hd hA hx
              obtain ⟨sv', hv6, hs6⟩ : ∃ sv', val 7 = .agg #[.int .i64 h.n, .int .i64 h.most, sv'] ∧ IsCnts W sv' (h.cs ++ [(⟨(A : Int), (B : Int), 0, slo - 1⟩ : Cnt)]) := hd 7 (by decide)
              have d6 : ρ (.tmp 165) = .agg #[.int .i64 h.n, .int .i64 h.most, sv'] := (hA.dep 7 (by decide) 165 rfl).trans hv6
              clear hd
              refine runq_call 48 _ _ rfl #[.agg #[.int .i64 h.n, .int .i64 h.most, sv']] (hA.func _) (by simp [d6]) (fun args W => Try.call48 args W) ((C9.out sv' W hs6).mono ?_)
              rintro e w' ⟨rfl, hb⟩
              exact ⟨_, rfl, hb, rfl⟩
            case send =>
              intro val WW hE hzz hv
              obtain ⟨r0, r1, r2, r3, r4, r5, r6, -, r8, r9, r10, r11, r12, r13, -⟩ := hv
              have q0 : val 0 = .agg #[.int .i64 h.n, .int .i64 h.most, .slice sa h.cs.length cap] := r0
              have q1 : val 1 = .int .i64 A := r1
              have q2 : val 2 = .int .i64 B := r2
              have q3 : val 3 = .pointer (some ⟨bS, 0, none⟩) := r3
              have q4 : val 4 = .int .i64 slo := r4
              have q5 : val 5 = .int .i64 (slo - 1) := r5
              have q6 : val 6 = .agg #[.int .i64 A, .int .i64 B, .int .i64 0, .int .i64 (slo - 1)] := r6
              have q8 : val 8 = .tuple #[.bool false, .bool true] := r8
              have q9 : val 9 = .tuple #[.bool false, .bool true] := r9
              have q10 : val 10 = .bool false := r10
              have q11 : val 11 = .bool true := r11
              have q12 : val 12 = .bool false := r12
              have q13 : val 13 = .bool true := r13
              clear r0 r1 r2 r3 r4 r5 r6 r8 r9 r10 r11 r12 r13
              obtain ⟨g92, rfl⟩ := grow_of hE
              clear hE hzz
              simp only [putD, q0, q1, q2, q3, q4, q5, q6, q8, q9, q10, q11, q12, q13]
              go_frame
              clear q0 q1 q2 q3 q4 q5 q6 q8 q9 q10 q11 q12 q13
              clear C9 CW hw2

              go_wp2_with fail
              refine callW (W0 := Z1) (g := g92) (by exact (by repeat (first | exact Below.refl _ _ | refine Ext.al ?_ _ | refine Ext.dr ?_ | refine Ext.drN ?_ _ | refine Ext.gr ?_ _ | refine Ext.set ?_ (by simp) _ | (refine Ext.trans' ?_ (by assumption))))) (works_any _) fun g17 hgr => ?_
              clear hgr
              go_wp2_with fail
              go_ret
              exact ⟨rfl, HW.out.trans' (grow_below Z1 g17)⟩

        · have hm1' : ((10000000 : Int) < shi + 1) = True := eq_true (by omega)

          have hw := fun w hs => with_any h (.slice sa h.cs.length cap) ⟨(A : Int), (B : Int), 10000000, 10000000⟩ w hs (by omega)
          obtain ⟨VW, ag⟩ := agr_withM V.out G.out hlen (a := A) (b := B) (lo := 10000000) (hi := 10000000) (by omega) (by omega) (by omega) (by omega) (by omega)
          rw [← SHI.out, ← SLO.out, show (decide (10000000 ≤ shi) && decide (slo ≤ 10000000)) = true by simp; omega] at ag
          have c9 := fun sv w hs => agrees_any (withH h ⟨(A : Int), (B : Int), 10000000, 10000000⟩) sv VW w hs
          rw [ag] at c9
          have C9 := Lib.hid c9
          have CW := Lib.hid hw
          clear hw VW ag c9
          refine wp_region_rove (Z0.heap.size) (Nat.le_refl _)
            [sqV (.agg #[.int .i64 h.n, .int .i64 h.most, .slice sa h.cs.length cap]),
             sqV (.int .i64 A),
             sqV (.int .i64 B),
             sqV (.pointer (some ⟨bS, 1, none⟩)),
             sqV (.int .i64 shi),
             sqV (.int .i64 (shi + 1)),
             sqV (.int .i64 10000000),
             sqV (.agg #[.int .i64 A, .int .i64 B, .int .i64 10000000, .int .i64 10000000]),
             sqW (fun v W => ∃ sv', v = .agg #[.int .i64 h.n, .int .i64 h.most, sv'] ∧ IsCnts W sv' (h.cs ++ [(⟨(A : Int), (B : Int), 10000000, 10000000⟩ : Cnt)])) (fun _ _ _ ⟨sv', h1, h2⟩ e => ⟨sv', h1, h2.ext e⟩),
             sqV (.tuple #[.bool true, .bool true]),
             sqV (.tuple #[.bool true, .bool true]),
             sqV (.bool true),
             sqV (.bool true),
             sqV (.bool true),
             sqV (.bool true)]
            [true, true, true, true, true, true, true, true, false, true, true, true, true, true, true] [false, false, false, false, false, false, false, false, false, false, false, false, false, false, false] [true, true, true, true, true, true, true, true, true, true, true, true, true, true, true] [true, true, true, true, true, true, true, true, true, true, true, true, true, true, true]
            (by kernel_rfl) (by kernel_rfl) (by decide +kernel) (by decide +kernel) (by decide +kernel) rfl rfl ⟨?s0, ?s1, ?s2, ?s3, ?s4, ?s5, ?s6, ?s7, ?s8, ?s9, ?s10, ?s11, ?s12, ?s13, ?s14, trivial⟩ [some 131, some 132, some 133, some 134, some 135, some 136, some 137, some 138, some 139, some 140, some 130, some 141, some 142, some 17, some 18] rfl rfl ?send
          case s0 =>
            intro val ρ W hE hz hd hA hx
            have o0 : ρ (.tmp 5) = .pointer (some ⟨w.heap.size, 0, none⟩) := hA.old 5 (by decide)
            have f_k0 := cell_below hE (by simp only; omega) k0
            have f_k1 := cell_below hE (by simp only; omega) k1
            have f_k2 := cell_below hE (by simp only; omega) k2
            clear hd
            exact runq_val (W' := W) (by simp [execOp, o0, f_k0, f_k1, f_k2, go_sem]) (Below.refl _ _) rfl
          case s1 =>
            intro val ρ W hE hz hd hA hx
            have o0 : ρ (.tmp 11) = .int .i64 A := hA.old 11 (by decide)
            clear hd
            exact runq_val (W' := W) (by simp [execOp, o0, go_sem]) (Below.refl _ _) rfl
          case s2 =>
            intro val ρ W hE hz hd hA hx
            have o0 : ρ (.tmp 12) = .int .i64 B := hA.old 12 (by decide)
            clear hd
            exact runq_val (W' := W) (by simp [execOp, o0, go_sem]) (Below.refl _ _) rfl
          case s3 =>
            intro val ρ W hE hz hd hA hx
            have o0 : ρ (.tmp 13) = .pointer (some ⟨bS, 0, none⟩) := hA.old 13 (by decide)
            clear hd
            exact runq_val (W' := W) (by simp [execOp, o0, go_sem]) (Below.refl _ _) rfl
          case s4 =>
            intro val ρ W hE hz hd hA hx
            have d3 : ρ (.tmp 134) = .pointer (some ⟨bS, 1, none⟩) := (hA.dep 3 (by decide) 134 rfl).trans (hd 3 (by decide))
            have f_x1 := cell_below hE (by simp only; omega) x1
            clear hd
            exact runq_val (W' := W) (by simp [execOp, d3, f_x1, go_sem]) (Below.refl _ _) rfl
          case s5 =>
            intro val ρ W hE hz hd hA hx
            have d4 : ρ (.tmp 135) = .int .i64 shi := (hA.dep 4 (by decide) 135 rfl).trans (hd 4 (by decide))
            clear hd
            exact runq_val (W' := W) (by simp [execOp, hA.const, d4, hw1, go_sem]) (Below.refl _ _) rfl
          case s6 =>
            intro val ρ W hE hz hd hA hx
            have d5 : ρ (.tmp 136) = .int .i64 (shi + 1) := (hA.dep 5 (by decide) 136 rfl).trans (hd 5 (by decide))
            clear hd
            exact runq_val (W' := W) (by simp [execOp, hA.const, d5, hm1', Builtin.min_, Builtin.min2, go_sem]) (Below.refl _ _) rfl
          case s7 =>
            intro val ρ W hE hz hd hA hx
            have d1 : ρ (.tmp 132) = .int .i64 A := (hA.dep 1 (by decide) 132 rfl).trans (hd 1 (by decide))
            have d2 : ρ (.tmp 133) = .int .i64 B := (hA.dep 2 (by decide) 133 rfl).trans (hd 2 (by decide))
            have d6 : ρ (.tmp 137) = .int .i64 10000000 := (hA.dep 6 (by decide) 137 rfl).trans (hd 6 (by decide))
            clear hd
            refine runq_call 50 _ _ rfl #[.int .i64 A, .int .i64 B, .int .i64 10000000, .int .i64 10000000] (hA.func _) (by simp [d1, d2, d6, hA.const]) (fun args W => Try.call50 args W) ((counter_any _ _ _ _ W).mono ?_)
            rintro e w' ⟨rfl, hb⟩
            exact ⟨_, rfl, hb, rfl⟩
          case s10 =>
            intro val ρ W hE hz hd hA hx
            have d9 : ρ (.tmp 140) = .tuple #[.bool true, .bool true] := (hA.dep 9 (by decide) 140 rfl).trans (hd 9 (by decide))
            clear hd
            exact runq_val (W' := W) (by simp [execOp, d9, go_sem]) (Below.refl _ _) rfl
          case s11 =>
            intro val ρ W hE hz hd hA hx
            have d10 : ρ (.tmp 130) = .tuple #[.bool true, .bool true] := (hA.dep 10 (by decide) 130 rfl).trans (hd 10 (by decide))
            clear hd
            exact runq_val (W' := W) (by simp [execOp, d10, go_sem]) (Below.refl _ _) rfl
          case s12 =>
            intro val ρ W hE hz hd hA hx
            have d10 : ρ (.tmp 130) = .tuple #[.bool true, .bool true] := (hA.dep 10 (by decide) 130 rfl).trans (hd 10 (by decide))
            clear hd
            exact runq_val (W' := W) (by simp [execOp, d10, go_sem]) (Below.refl _ _) rfl
          case s13 =>
            intro val ρ W hE hz hd hA hx
            have d11 : ρ (.tmp 141) = .bool true := (hA.dep 11 (by decide) 141 rfl).trans (hd 11 (by decide))
            clear hd
            exact runq_val (W' := W) (by simp [execOp, d11, go_sem]) (Below.refl _ _) rfl
          case s14 =>
            intro val ρ W hE hz hd hA hx
            have d12 : ρ (.tmp 142) = .bool true := (hA.dep 12 (by decide) 142 rfl).trans (hd 12 (by decide))
            clear hd
            exact runq_val (W' := W) (by simp [execOp, d12, go_sem]) (Below.refl _ _) rfl
          case s8 =>
            intro val ρ W hE hz hd hA hx
            have d0 : ρ (.tmp 131) = .agg #[.int .i64 h.n, .int .i64 h.most, .slice sa h.cs.length cap] := (hA.dep 0 (by decide) 131 rfl).trans (hd 0 (by decide))
            have d5 : ρ (.tmp 138) = .agg #[.int .i64 A, .int .i64 B, .int .i64 (10000000), .int .i64 (10000000)] := (hA.dep 7 (by decide) 138 rfl).trans (hd 7 (by decide))
            clear hd
            refine runq_call 49 _ _ rfl #[.agg #[.int .i64 h.n, .int .i64 h.most, .slice sa h.cs.length cap], .agg #[.int .i64 A, .int .i64 B, .int .i64 (10000000), .int .i64 (10000000)]] (hA.func _) (by simp [d0, d5]) (fun args W => Try.call49 args W) ((CW.out W (HS.out.ext hE)).mono ?_)
            rintro e w' ⟨sv', rfl, hb, hs⟩
            exact ⟨_, rfl, hb, sv', rfl, hs⟩
          case s9 =>
            intro val ρ W hE hz hd hA hx
            obtain ⟨sv', hv6, hs6⟩ : ∃ sv', val 8 = .agg #[.int .i64 h.n, .int .i64 h.most, sv'] ∧ IsCnts W sv' (h.cs ++ [(⟨(A : Int), (B : Int), 10000000, 10000000⟩ : Cnt)]) := hd 8 (by decide)
            have d6 : ρ (.tmp 139) = .agg #[.int .i64 h.n, .int .i64 h.most, sv'] := (hA.dep 8 (by decide) 139 rfl).trans hv6
            clear hd
            refine runq_call 48 _ _ rfl #[.agg #[.int .i64 h.n, .int .i64 h.most, sv']] (hA.func _) (by simp [d6]) (fun args W => Try.call48 args W) ((C9.out sv' W hs6).mono ?_)
            rintro e w' ⟨rfl, hb⟩
            exact ⟨_, rfl, hb, rfl⟩
          case send =>
            intro val WW hE hzz hv
            obtain ⟨r0, r1, r2, r3, r4, r5, r6, r7, -, r9, r10, r11, r12, r13, r14, -⟩ := hv
            have q0 : val 0 = .agg #[.int .i64 h.n, .int .i64 h.most, .slice sa h.cs.length cap] := r0
            have q1 : val 1 = .int .i64 A := r1
            have q2 : val 2 = .int .i64 B := r2
            have q3 : val 3 = .pointer (some ⟨bS, 1, none⟩) := r3
            have q4 : val 4 = .int .i64 shi := r4
            have q5 : val 5 = .int .i64 (shi + 1) := r5
            have q6 : val 6 = .int .i64 10000000 := r6
            have q7 : val 7 = .agg #[.int .i64 A, .int .i64 B, .int .i64 10000000, .int .i64 10000000] := r7
            have q9 : val 9 = .tuple #[.bool true, .bool true] := r9
            have q10 : val 10 = .tuple #[.bool true, .bool true] := r10
            have q11 : val 11 = .bool true := r11
            have q12 : val 12 = .bool true := r12
            have q13 : val 13 = .bool true := r13
            have q14 : val 14 = .bool true := r14
            clear r0 r1 r2 r3 r4 r5 r6 r7 r9 r10 r11 r12 r13 r14
            obtain ⟨g91, rfl⟩ := grow_of hE
            clear hE hzz
            simp only [putD, q0, q1, q2, q3, q4, q5, q6, q7, q9, q10, q11, q12, q13, q14]
            go_frame
            clear q0 q1 q2 q3 q4 q5 q6 q7 q9 q10 q11 q12 q13 q14
            clear C9 CW hw1 hm1'

            go_upto_region 21 with (fail)
            by_cases hz0 : slo = 0
            · have hz1 : (slo == 0) = true := by simpa using hz0

              go_wp2_with fail
              refine callW (W0 := Z0) (g := g91) (by exact (by repeat (first | exact Below.refl _ _ | refine Ext.al ?_ _ | refine Ext.dr ?_ | refine Ext.drN ?_ _ | refine Ext.gr ?_ _ | refine Ext.set ?_ (by simp) _ | (refine Ext.trans' ?_ (by assumption))))) (works_any _) fun g18 hgr => ?_
              clear hgr
              go_wp2_with fail
              go_ret
              exact ⟨rfl, HW.out.trans' (grow_below Z0 g18)⟩

            have hz1 : (slo == 0) = false := by simpa using hz0
            go_upto_region 23 with (fail)
            obtain ⟨Z1, hZ1⟩ : ∃ zz9, zz9 = (grow Z0 g91) := ⟨_, rfl⟩
            have eZ1 : Ext Z0 Z1 := by rw [hZ1]; exact (by repeat (first | exact Below.refl _ _ | refine Ext.al ?_ _ | refine Ext.dr ?_ | refine Ext.drN ?_ _ | refine Ext.gr ?_ _ | refine Ext.set ?_ (by simp) _ | (refine Ext.trans' ?_ (by assumption))))
            replace k0 := cell_ext eZ1 k0
            replace k1 := cell_ext eZ1 k1
            replace k2 := cell_ext eZ1 k2
            replace x0 := cell_ext eZ1 x0
            replace x1 := cell_ext eZ1 x1
            replace HS := Lib.hid (HS.out.ext eZ1)
            replace HT := Lib.hid (HT.out.ext eZ1)
            replace HW := Lib.hid (HW.out.trans' eZ1)
            rw [← hZ1]
            replace hz := World.block_lt_of_cell? _ _ k0
            replace zbS := World.block_lt_of_cell? _ _ x0
            clear hZ1 eZ1
            have hw2 : IntKind.i64.wrap (slo - 1) = slo - 1 := IntWalk.i64_in _ (by omega)
            have hw := fun w hs => with_any h (.slice sa h.cs.length cap) ⟨(A : Int), (B : Int), 0, (slo - 1)⟩ w hs (by omega)
            obtain ⟨VW, ag⟩ := agr_withM V.out G.out hlen (a := A) (b := B) (lo := 0) (hi := (slo - 1)) (by omega) (by omega) (by omega) (by omega) (by omega)
            rw [← SHI.out, ← SLO.out, show (decide (0 ≤ shi) && decide (slo ≤ (slo - 1))) = false by simp; omega] at ag
            have c9 := fun sv w hs => agrees_any (withH h ⟨(A : Int), (B : Int), 0, (slo - 1)⟩) sv VW w hs
            rw [ag] at c9
            have C9 := Lib.hid c9
            have CW := Lib.hid hw
            clear hw VW ag c9
            refine wp_region_rove (Z1.heap.size) (Nat.le_refl _)
              [sqV (.agg #[.int .i64 h.n, .int .i64 h.most, .slice sa h.cs.length cap]),
               sqV (.int .i64 A),
               sqV (.int .i64 B),
               sqV (.pointer (some ⟨bS, 0, none⟩)),
               sqV (.int .i64 slo),
               sqV (.int .i64 (slo - 1)),
               sqV (.agg #[.int .i64 A, .int .i64 B, .int .i64 0, .int .i64 (slo - 1)]),
               sqW (fun v W => ∃ sv', v = .agg #[.int .i64 h.n, .int .i64 h.most, sv'] ∧ IsCnts W sv' (h.cs ++ [(⟨(A : Int), (B : Int), 0, slo - 1⟩ : Cnt)])) (fun _ _ _ ⟨sv', h1, h2⟩ e => ⟨sv', h1, h2.ext e⟩),
               sqV (.tuple #[.bool false, .bool true]),
               sqV (.tuple #[.bool false, .bool true]),
               sqV (.bool false),
               sqV (.bool true),
               sqV (.bool false),
               sqV (.bool true)]
              [true, true, true, true, true, true, true, false, true, true, true, true, true, true] [false, false, false, false, false, false, false, false, false, false, false, false, false, false] [true, true, true, true, true, true, true, true, true, true, true, true, true, true] [true, true, true, true, true, true, true, true, true, true, true, true, true, true]
              (by kernel_rfl) (by kernel_rfl) (by decide +kernel) (by decide +kernel) (by decide +kernel) rfl rfl ⟨?s0, ?s1, ?s2, ?s3, ?s4, ?s5, ?s6, ?s7, ?s8, ?s9, ?s10, ?s11, ?s12, ?s13, trivial⟩ [some 158, some 159, some 160, some 161, some 162, some 163, some 164, some 165, some 166, some 157, some 167, some 168, some 17, some 18] rfl rfl ?send
            case s0 =>
              intro val ρ W hE hz hd hA hx
              have o0 : ρ (.tmp 5) = .pointer (some ⟨w.heap.size, 0, none⟩) := hA.old 5 (by decide)
              have f_k0 := cell_below hE (by simp only; omega) k0
              have f_k1 := cell_below hE (by simp only; omega) k1
              have f_k2 := cell_below hE (by simp only; omega) k2
              clear hd
              exact runq_val (W' := W) (by simp [execOp, o0, f_k0, f_k1, f_k2, go_sem]) (Below.refl _ _) rfl
            case s1 =>
              intro val ρ W hE hz hd hA hx
              have o0 : ρ (.tmp 11) = .int .i64 A := hA.old 11 (by decide)
              clear hd
              exact runq_val (W' := W) (by simp [execOp, o0, go_sem]) (Below.refl _ _) rfl
            case s2 =>
              intro val ρ W hE hz hd hA hx
              have o0 : ρ (.tmp 12) = .int .i64 B := hA.old 12 (by decide)
              clear hd
              exact runq_val (W' := W) (by simp [execOp, o0, go_sem]) (Below.refl _ _) rfl
            case s3 =>
              intro val ρ W hE hz hd hA hx
              have o0 : ρ (.tmp 13) = .pointer (some ⟨bS, 0, none⟩) := hA.old 13 (by decide)
              clear hd
              exact runq_val (W' := W) (by simp [execOp, o0, go_sem]) (Below.refl _ _) rfl
            case s4 =>
              intro val ρ W hE hz hd hA hx
              have d3 : ρ (.tmp 161) = .pointer (some ⟨bS, 0, none⟩) := (hA.dep 3 (by decide) 161 rfl).trans (hd 3 (by decide))
              have f_x0 := cell_below hE (by simp only; omega) x0
              clear hd
              exact runq_val (W' := W) (by simp [execOp, d3, f_x0, go_sem]) (Below.refl _ _) rfl
            case s5 =>
              intro val ρ W hE hz hd hA hx
              have d4 : ρ (.tmp 162) = .int .i64 slo := (hA.dep 4 (by decide) 162 rfl).trans (hd 4 (by decide))
              clear hd
              exact runq_val (W' := W) (by simp [execOp, hA.const, d4, hw2, go_sem]) (Below.refl _ _) rfl
            case s6 =>
              intro val ρ W hE hz hd hA hx
              have d1 : ρ (.tmp 159) = .int .i64 A := (hA.dep 1 (by decide) 159 rfl).trans (hd 1 (by decide))
              have d2 : ρ (.tmp 160) = .int .i64 B := (hA.dep 2 (by decide) 160 rfl).trans (hd 2 (by decide))
              have d5 : ρ (.tmp 163) = .int .i64 (slo - 1) := (hA.dep 5 (by decide) 163 rfl).trans (hd 5 (by decide))
              clear hd
              refine runq_call 50 _ _ rfl #[.int .i64 A, .int .i64 B, .int .i64 0, .int .i64 (slo - 1)] (hA.func _) (by simp [d1, d2, d5, hA.const]) (fun args W => Try.call50 args W) ((counter_any _ _ _ _ W).mono ?_)
              rintro e w' ⟨rfl, hb⟩
              exact ⟨_, rfl, hb, rfl⟩
            case s9 =>
              intro val ρ W hE hz hd hA hx
              have d8 : ρ (.tmp 166) = .tuple #[.bool false, .bool true] := (hA.dep 8 (by decide) 166 rfl).trans (hd 8 (by decide))
              clear hd
              exact runq_val (W' := W) (by simp [execOp, d8, go_sem]) (Below.refl _ _) rfl
            case s10 =>
              intro val ρ W hE hz hd hA hx
              have d9 : ρ (.tmp 157) = .tuple #[.bool false, .bool true] := (hA.dep 9 (by decide) 157 rfl).trans (hd 9 (by decide))
              clear hd
              exact runq_val (W' := W) (by simp [execOp, d9, go_sem]) (Below.refl _ _) rfl
            case s11 =>
              intro val ρ W hE hz hd hA hx
              have d9 : ρ (.tmp 157) = .tuple #[.bool false, .bool true] := (hA.dep 9 (by decide) 157 rfl).trans (hd 9 (by decide))
              clear hd
              exact runq_val (W' := W) (by simp [execOp, d9, go_sem]) (Below.refl _ _) rfl
            case s12 =>
              intro val ρ W hE hz hd hA hx
              have d10 : ρ (.tmp 167) = .bool false := (hA.dep 10 (by decide) 167 rfl).trans (hd 10 (by decide))
              clear hd
              exact runq_val (W' := W) (by simp [execOp, d10, go_sem]) (Below.refl _ _) rfl
            case s13 =>
              intro val ρ W hE hz hd hA hx
              have d11 : ρ (.tmp 168) = .bool true := (hA.dep 11 (by decide) 168 rfl).trans (hd 11 (by decide))
              clear hd
              exact runq_val (W' := W) (by simp [execOp, d11, go_sem]) (Below.refl _ _) rfl
            case s7 =>
              intro val ρ W hE hz hd hA hx
              have d0 : ρ (.tmp 158) = .agg #[.int .i64 h.n, .int .i64 h.most, .slice sa h.cs.length cap] := (hA.dep 0 (by decide) 158 rfl).trans (hd 0 (by decide))
              have d5 : ρ (.tmp 164) = .agg #[.int .i64 A, .int .i64 B, .int .i64 (0), .int .i64 (slo - 1)] := (hA.dep 6 (by decide) 164 rfl).trans (hd 6 (by decide))
              clear hd
              refine runq_call 49 _ _ rfl #[.agg #[.int .i64 h.n, .int .i64 h.most, .slice sa h.cs.length cap], .agg #[.int .i64 A, .int .i64 B, .int .i64 (0), .int .i64 (slo - 1)]] (hA.func _) (by simp [d0, d5]) (fun args W => Try.call49 args W) ((CW.out W (HS.out.ext hE)).mono ?_)
              rintro e w' ⟨sv', rfl, hb, hs⟩
              exact ⟨_, rfl, hb, sv', rfl, hs⟩
            case s8 =>
              intro val ρ W hE hz hd hA hx
              obtain ⟨sv', hv6, hs6⟩ : ∃ sv', val 7 = .agg #[.int .i64 h.n, .int .i64 h.most, sv'] ∧ IsCnts W sv' (h.cs ++ [(⟨(A : Int), (B : Int), 0, slo - 1⟩ : Cnt)]) := hd 7 (by decide)
              have d6 : ρ (.tmp 165) = .agg #[.int .i64 h.n, .int .i64 h.most, sv'] := (hA.dep 7 (by decide) 165 rfl).trans hv6
              clear hd
              refine runq_call 48 _ _ rfl #[.agg #[.int .i64 h.n, .int .i64 h.most, sv']] (hA.func _) (by simp [d6]) (fun args W => Try.call48 args W) ((C9.out sv' W hs6).mono ?_)
              rintro e w' ⟨rfl, hb⟩
              exact ⟨_, rfl, hb, rfl⟩
            case send =>
              intro val WW hE hzz hv
              obtain ⟨r0, r1, r2, r3, r4, r5, r6, -, r8, r9, r10, r11, r12, r13, -⟩ := hv
              have q0 : val 0 = .agg #[.int .i64 h.n, .int .i64 h.most, .slice sa h.cs.length cap] := r0
              have q1 : val 1 = .int .i64 A := r1
              have q2 : val 2 = .int .i64 B := r2
              have q3 : val 3 = .pointer (some ⟨bS, 0, none⟩) := r3
              have q4 : val 4 = .int .i64 slo := r4
              have q5 : val 5 = .int .i64 (slo - 1) := r5
              have q6 : val 6 = .agg #[.int .i64 A, .int .i64 B, .int .i64 0, .int .i64 (slo - 1)] := r6
              have q8 : val 8 = .tuple #[.bool false, .bool true] := r8
              have q9 : val 9 = .tuple #[.bool false, .bool true] := r9
              have q10 : val 10 = .bool false := r10
              have q11 : val 11 = .bool true := r11
              have q12 : val 12 = .bool false := r12
              have q13 : val 13 = .bool true := r13
              clear r0 r1 r2 r3 r4 r5 r6 r8 r9 r10 r11 r12 r13
              obtain ⟨g92, rfl⟩ := grow_of hE
              clear hE hzz
              simp only [putD, q0, q1, q2, q3, q4, q5, q6, q8, q9, q10, q11, q12, q13]
              go_frame
              clear q0 q1 q2 q3 q4 q5 q6 q8 q9 q10 q11 q12 q13
              clear C9 CW hw2

              go_wp2_with fail
              refine callW (W0 := Z1) (g := g92) (by exact (by repeat (first | exact Below.refl _ _ | refine Ext.al ?_ _ | refine Ext.dr ?_ | refine Ext.drN ?_ _ | refine Ext.gr ?_ _ | refine Ext.set ?_ (by simp) _ | (refine Ext.trans' ?_ (by assumption))))) (works_any _) fun g19 hgr => ?_
              clear hgr
              go_wp2_with fail
              go_ret
              exact ⟨rfl, HW.out.trans' (grow_below Z1 g19)⟩



open Go.ChangeShapes Go.WideShapes Go.ChangeAt in
set_option maxRecDepth 100000 in
theorem cutHeld_lifted (os : Os) (started : os.Started) (H : Type) (enc : TypeId × Value → H) :
    ReturnsInHanded {} Try.checked os 9 .any (Rows.cutHeldSpec.pre6 enc Try.prog Try.f9 Rows.cutHeldRow.domain false) (Rows.cutHeldSpec.post enc Try.prog Try.f9 false true false false) := by
  refine returnsInHanded_of_change (C := Try.checked) own started (by kernel_rfl) Try.func9
    (ChangeSpec.witness6 (enc := enc) (C := Try.checked) false ⟨#[], #[.agg #[.int .i64 0, .int .i64 0, .slice none 0 0], .slice none 0 0, .int .u8 0, .int .u8 0, .int .u32 0], []⟩ 8 (by kernel_rfl) (by kernel_rfl) (by kernel_rfl) (by kernel_rfl)) ?_
  intro W base args ds gs before hval0 hW hcnd _
  have hval : ∀ (j : Nat) t v, Try.f9.params[j]? = some t → args[j]? = some v → Value.okWide Try.prog W .any base t v := hval0
  have hW' := hW
  obtain ⟨p, q, hA0, hV, rfl, hfz, hnd⟩ := hW
  have hA : DataW.TrodAll enc Try.prog W 0 (fun _ => true) true Try.f9.params.toList args.toList ds p := hA0
  rw [Try.params9] at hA hval
  obtain ⟨v0, vs0, d0, ds0, p0, q0, hargs, rfl, rfl, h0, r0⟩ := trodAll_cons hA
  obtain ⟨v1, vs1, d1, ds1, p1, q1, rfl, rfl, rfl, h1, r1⟩ := trodAll_cons r0
  obtain ⟨v2, vs2, d2, ds2, p2, q2, rfl, rfl, rfl, h2, r2⟩ := trodAll_cons r1
  obtain ⟨v3, vs3, d3, ds3, p3, q3, rfl, rfl, rfl, h3, r3⟩ := trodAll_cons r2
  obtain ⟨v4, vs4, d4, ds4, p4, q4, rfl, rfl, rfl, h4, r4⟩ := trodAll_cons r3
  obtain ⟨rfl, rfl, rfl⟩ := trodAll_nil r4
  obtain rfl : args = #[v0, v1, v2, v3, v4] := by cases args; simp_all
  obtain ⟨hh, shh, rfl, hhh⟩ := openHall (hval 0 24 v0 rfl rfl) h0
  obtain ⟨t, ht, wt⟩ := openNums Try.underlying25 Try.underlying2 (by kernel_rfl) (hval 1 25 v1 rfl rfl) h1
  obtain ⟨a, rfl, rfl, rfl, wa⟩ := open_int Try.underlying5 (hval 2 5 v2 rfl rfl) h2
  obtain ⟨b, rfl, rfl, rfl, wb⟩ := open_int Try.underlying5 (hval 3 5 v3 rfl rfl) h3
  obtain ⟨n, rfl, rfl, rfl, wn⟩ := open_int Try.underlying64 (hval 4 64 v4 rfl rfl) h4
  clear hA0 hval0
  refine (cutHeld_any hh shh v1 t a b n W hhh ht wa wb wn).mono fun e W' ⟨he, hb⟩ => ?_
  subst he
  exact ⟨_, rfl, law_post laidOut (tb := 4) (hts_of (by kernel_rfl)) (by kernel_rfl) Try.underlying4 hW' rfl rfl hb⟩
theorem cutHeld_holds : Rows.CutHeldSaid :=
  OpenClaim.holds_of_wide 9 Try.f9 rfl rfl rfl rfl rfl rfl rfl ⟨rfl, rfl, rfl, rfl, rfl⟩ rfl rfl rfl rfl rfl (by kernel_rfl) Try.func9 (by kernel_rfl)
    (of_decide_eq_true (by kernel_rfl)) (by unfold Func.isWrapper; first | (rw [if_pos (by decide +kernel)]; kernel_rfl) | (rw [if_neg (by decide +kernel)]; exact ⟨rfl, rfl⟩))
    (fun os started H enc _ => cutHeld_lifted os started H enc)
end Go.Proofs.Ytgcldgchhdjnhaa
