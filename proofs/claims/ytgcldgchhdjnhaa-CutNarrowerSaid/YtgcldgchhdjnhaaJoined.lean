/-
  The statement CutJoined holds: the ends of the span of windows and of those that follow, together, contain the span of all of them; with a window more that no counter counts all spans of the others stay; for every hall and any three numbers that are handed in. No condition.
-/
import Derived.Test.YtgcldgchhdjnhaaProved
import Derived.Test.YtgcldgchhdjnhaaMath2
namespace Go.Proofs.Ytgcldgchhdjnhaa
open Go.RowKit Go.Shelf
set_option maxRecDepth 100000 in
set_option maxHeartbeats 4000000 in
theorem cutJoined_any (h : Hall) (sv : Value) (f t c : Int) (w : World) (hs : IsCnts w sv h.cs) (wf : (Lit.int .u8 f).wf = true) (wt : (Lit.int .u8 t).wf = true) (wc : (Lit.int .u8 c).wf = true) :
    Calls Try.prog 12 #[.agg #[.int .i64 h.n, .int .i64 h.most, sv], .int .u8 f, .int .u8 t, .int .u8 c] w fun e w' => e = .returned (.bool true) ∧ Ext w w' := by
  obtain ⟨sa, cap, rfl, hl1, hl2, -⟩ := hs.spec
  obtain ⟨f0, f1⟩ := bounds_u8 wf
  obtain ⟨t0, t1⟩ := bounds_u8 wt
  obtain ⟨c0, c1'⟩ := bounds_u8 wc
  have HS0 := Lib.hid hs
  clear hs wf wt wc
  go_enter Try.func12, Try.ntmps12
  go_upto_region 1 with (fail)
  obtain ⟨W0, hW0⟩ : ∃ W0, W0 = w.alloc (.cells #[.int .i64 h.n, .int .i64 h.most, .slice sa h.cs.length cap] 24) := ⟨_, rfl⟩
  have hE : Ext w W0 := by rw [hW0]; exact (by repeat (first | exact Below.refl _ _ | refine Ext.al ?_ _ | refine Ext.dr ?_ | refine Ext.drN ?_ _ | refine Ext.gr ?_ _ | refine Ext.set ?_ (by simp) _ | (refine Ext.trans' ?_ (by assumption))))
  have k0 : W0.cell? ⟨w.heap.size, 0, none⟩ = some (.int .i64 h.n) := by rw [hW0]; simp [go_sem]
  have k1 : W0.cell? ⟨w.heap.size, 1, none⟩ = some (.int .i64 h.most) := by rw [hW0]; simp [go_sem]
  have k2 : W0.cell? ⟨w.heap.size, 2, none⟩ = some (.slice sa h.cs.length cap) := by rw [hW0]; simp [go_sem]
  have hz : w.heap.size < W0.heap.size := World.block_lt_of_cell? _ _ k0
  have HS := Lib.hid (HS0.out.ext hE)
  have HW := Lib.hid hE
  rw [← hW0]
  clear hW0 HS0
  clear hE

  go_wp2_with fail
  refine callW (W0 := W0) (g := ⟨W0, Below.refl _ _⟩) (by exact (by repeat (first | exact Below.refl _ _ | refine Ext.al ?_ _ | refine Ext.dr ?_ | refine Ext.drN ?_ _ | refine Ext.gr ?_ _ | refine Ext.set ?_ (by simp) _ | (refine Ext.trans' ?_ (by assumption))))) (fine_any h _ _ (HS.out.ext (by exact (by repeat (first | exact Below.refl _ _ | refine Ext.al ?_ _ | refine Ext.dr ?_ | refine Ext.drN ?_ _ | refine Ext.gr ?_ _ | refine Ext.set ?_ (by simp) _ | (refine Ext.trans' ?_ (by assumption))))))) fun g1 hgr => ?_
  clear hgr
  by_cases hc : chk h = 0
  rotate_left
  · rw [show (chk h == 0) = false by simpa using hc]
    clear hc

    go_wp2_with fail
    refine callW (W0 := W0) (g := g1) (by exact (by repeat (first | exact Below.refl _ _ | refine Ext.al ?_ _ | refine Ext.dr ?_ | refine Ext.drN ?_ _ | refine Ext.gr ?_ _ | refine Ext.set ?_ (by simp) _ | (refine Ext.trans' ?_ (by assumption))))) (works_any _) fun g2 hgr => ?_
    clear hgr
    go_wp2_with fail
    go_ret
    exact ⟨rfl, HW.out.trans' (grow_below W0 g2)⟩

  rw [show (chk h == 0) = true by simpa using hc]
  have V := Lib.hid (valid_of_chk hc)
  have n1 := V.out.n1
  have n10 := V.out.n10
  clear hc
  obtain ⟨A, hA, hAn⟩ := modN f0 n1
  obtain ⟨T, hT, hTn⟩ := modN (n := h.n - A) t0 (by omega)
  obtain ⟨B, hB⟩ : ∃ B : Nat, (A : Int) + T = B := ⟨A + T, by omega⟩
  have hAB : A ≤ B := by omega
  have hBn : (B : Int) < h.n := by omega
  go_upto_region 5 with (fail)
  simp only [hA, hT]
  clear hA hT hB f0 f1 t0 t1
  have d1 := fun w hs => span_any h (.slice sa h.cs.length cap) (A : Int) (B : Int) w hs
  cases hag : (leastM h 0).2
  · obtain ⟨q1, q2, q3⟩ := span_not V.out hag (a := A) (b := B) (by omega) (by omega)
    rw [q1, q2, q3] at d1
    have D1 := Lib.hid d1
    clear d1 q1 q2 q3 hag

    go_wp2_with fail
    refine callW (W0 := W0) (g := g1) (by exact (by repeat (first | exact Below.refl _ _ | refine Ext.al ?_ _ | refine Ext.dr ?_ | refine Ext.drN ?_ _ | refine Ext.gr ?_ _ | refine Ext.set ?_ (by simp) _ | (refine Ext.trans' ?_ (by assumption))))) (D1.out _ (HS.out.ext (by exact (by repeat (first | exact Below.refl _ _ | refine Ext.al ?_ _ | refine Ext.dr ?_ | refine Ext.drN ?_ _ | refine Ext.gr ?_ _ | refine Ext.set ?_ (by simp) _ | (refine Ext.trans' ?_ (by assumption))))))) fun g3 hgr => ?_
    clear hgr
    go_wp2_with fail
    refine callW (W0 := W0) (g := g3) (by exact (by repeat (first | exact Below.refl _ _ | refine Ext.al ?_ _ | refine Ext.dr ?_ | refine Ext.drN ?_ _ | refine Ext.gr ?_ _ | refine Ext.set ?_ (by simp) _ | (refine Ext.trans' ?_ (by assumption))))) (works_any _) fun g4 hgr => ?_
    clear hgr
    go_wp2_with fail
    go_ret
    exact ⟨rfl, HW.out.trans' (grow_below W0 g4)⟩

  · have g := (agr_iff V.out).1 hag
    have q1 := spanE_agr V.out (a := A) (b := B) (by omega) (by omega)
    rw [hag] at q1
    replace q1 : spanE h A B = 0 := q1
    rw [q1, spanLo_agr V.out hag (by omega) (by omega), spanHi_agr V.out hag (by omega) (by omega)] at d1
    obtain ⟨slo, hlo⟩ : ∃ x, x = ds h (B + 1) A := ⟨_, rfl⟩
    obtain ⟨shi, hhi⟩ : ∃ x, x = ds h A (B + 1) := ⟨_, rfl⟩
    have b1 := leastM_bd V.out (B + 1) A
    have b2 := leastM_bd V.out A (B + 1)
    rw [show (leastM h (B + 1)).1.sums A = ds h (B + 1) A from rfl, ← hlo] at b1
    rw [show (leastM h A).1.sums (B + 1) = ds h A (B + 1) from rfl, ← hhi] at b2
    rw [← hlo, ← hhi] at d1
    obtain ⟨b11, b12⟩ := b1
    obtain ⟨b21, b22⟩ := b2
    have D1 := Lib.hid d1
    have SLO := Lib.hid hlo
    have SHI := Lib.hid hhi
    have G := Lib.hid g
    have HAG := Lib.hid hag
    clear d1 q1 hag g hlo hhi

    go_wp2_with fail
    refine callW (W0 := W0) (g := g1) (by exact (by repeat (first | exact Below.refl _ _ | refine Ext.al ?_ _ | refine Ext.dr ?_ | refine Ext.drN ?_ _ | refine Ext.gr ?_ _ | refine Ext.set ?_ (by simp) _ | (refine Ext.trans' ?_ (by assumption))))) (D1.out _ (HS.out.ext (by exact (by repeat (first | exact Below.refl _ _ | refine Ext.al ?_ _ | refine Ext.dr ?_ | refine Ext.drN ?_ _ | refine Ext.gr ?_ _ | refine Ext.set ?_ (by simp) _ | (refine Ext.trans' ?_ (by assumption))))))) fun g5 hgr => ?_
    clear hgr
    go_upto_region 6 with (fail)
    obtain ⟨X0, hX0⟩ : ∃ zz9, zz9 = (grow W0 g5).alloc (.cells #[.int .i64 (-slo), .int .i64 shi] 35) := ⟨_, rfl⟩
    have x0 : X0.cell? ⟨(grow W0 g5).heap.size, 0, none⟩ = some (.int .i64 (-slo)) := by rw [hX0]; simp [go_sem]
    have x1 : X0.cell? ⟨(grow W0 g5).heap.size, 1, none⟩ = some (.int .i64 shi) := by rw [hX0]; simp [go_sem]
    have eX0 : Ext W0 X0 := by rw [hX0]; exact (by repeat (first | exact Below.refl _ _ | refine Ext.al ?_ _ | refine Ext.dr ?_ | refine Ext.drN ?_ _ | refine Ext.gr ?_ _ | refine Ext.set ?_ (by simp) _ | (refine Ext.trans' ?_ (by assumption))))
    replace k0 := cell_ext eX0 k0
    replace k1 := cell_ext eX0 k1
    replace k2 := cell_ext eX0 k2
    replace HS := Lib.hid (HS.out.ext eX0)
    replace HW := Lib.hid (HW.out.trans' eX0)
    rw [← hX0]
    obtain ⟨bS, hbS⟩ : ∃ b, b = (grow W0 g5).heap.size := ⟨_, rfl⟩
    rw [← hbS] at x0 x1 ⊢
    replace hz := World.block_lt_of_cell? _ _ k0
    have zbS := World.block_lt_of_cell? _ _ x0
    simp only at zbS
    clear hX0 eX0 hbS
    by_cases h10 : h.n < 10
    · have h10' : decide (h.n < 10) = true := decide_eq_true h10
      have vm := more_valid V.out h10
      obtain ⟨m1, m2⟩ := more_eq V.out h10
      have m3 := m2 G.out
      have gm := (agr_iff vm).2 (m1.2 G.out)
      have d2 := fun w hs => span_any (moreH h) (.slice sa h.cs.length cap) (A : Int) (B : Int) w hs
      have q1 := spanE_agr vm (a := A) (b := B) (by omega) (by show (B : Int) < h.n + 1; omega)
      rw [gm] at q1
      replace q1 : spanE (moreH h) A B = 0 := q1
      rw [q1, spanLo_agr vm gm (by omega) (by show (B : Int) < h.n + 1; omega), spanHi_agr vm gm (by omega) (by show (B : Int) < h.n + 1; omega), m3 _ _ (by omega) (by omega), m3 _ _ (by omega) (by omega), ← SLO.out, ← SHI.out] at d2
      have D2 := Lib.hid d2
      clear d2 q1 gm m1 m2 m3 vm

      go_wp2_with fail
      refine callW (W0 := X0) (g := ⟨X0, Below.refl _ _⟩) (by exact (by repeat (first | exact Below.refl _ _ | refine Ext.al ?_ _ | refine Ext.dr ?_ | refine Ext.drN ?_ _ | refine Ext.gr ?_ _ | refine Ext.set ?_ (by simp) _ | (refine Ext.trans' ?_ (by assumption))))) (D2.out _ (HS.out.ext (by exact (by repeat (first | exact Below.refl _ _ | refine Ext.al ?_ _ | refine Ext.dr ?_ | refine Ext.drN ?_ _ | refine Ext.gr ?_ _ | refine Ext.set ?_ (by simp) _ | (refine Ext.trans' ?_ (by assumption))))))) fun g6 hgr => ?_
      clear hgr
      go_upto_region 14 with (fail)
      by_cases hlast : (B : Int) = h.n - 1
      · have hl1 : ((B : Int) == h.n - 1) = true := by simpa using hlast
        clear hlast

        go_wp2_with fail
        refine callW (W0 := X0) (g := g6) (by exact (by repeat (first | exact Below.refl _ _ | refine Ext.al ?_ _ | refine Ext.dr ?_ | refine Ext.drN ?_ _ | refine Ext.gr ?_ _ | refine Ext.set ?_ (by simp) _ | (refine Ext.trans' ?_ (by assumption))))) (works_any _) fun g7 hgr => ?_
        clear hgr
        go_wp2_with fail
        go_ret
        exact ⟨rfl, HW.out.trans' (grow_below X0 g7)⟩

      have hl1 : ((B : Int) == h.n - 1) = false := by simpa using hlast
      obtain ⟨U, hU, hUn⟩ := modN (n := h.n - B - 1) c0 (by omega)
      obtain ⟨D, hD⟩ : ∃ D : Nat, (B : Int) + 1 + U = D := ⟨B + 1 + U, by omega⟩
      have hBD : B < D := by omega
      have hDn : (D : Int) < h.n := by omega
      clear hlast
      go_upto_region 17 with (fail)
      simp only [hU]
      clear hU hD hl1 c0 c1'
      have d1 := fun w hs => span_any h (.slice sa h.cs.length cap) ((B : Int) + 1) (D : Int) w hs
      have d2 := fun w hs => span_any h (.slice sa h.cs.length cap) (A : Int) (D : Int) w hs
      rw [show ((B : Int) + 1) = ((B + 1 : Nat) : Int) from rfl] at d1
      have q1 := spanE_agr V.out (a := B + 1) (b := D) (by omega) (by omega)
      have q2 := spanE_agr V.out (a := A) (b := D) (by omega) (by omega)
      rw [HAG.out] at q1 q2
      replace q1 : spanE h (B + 1 : Nat) D = 0 := q1
      replace q2 : spanE h A D = 0 := q2
      rw [q1, spanLo_agr V.out HAG.out (by omega) (by omega), spanHi_agr V.out HAG.out (by omega) (by omega)] at d1
      rw [q2, spanLo_agr V.out HAG.out (by omega) (by omega), spanHi_agr V.out HAG.out (by omega) (by omega)] at d2
      have t1 := ds_tri V.out G.out (a := A) (b := B + 1) (c := D + 1) (by omega) (by omega) (by omega)
      have t2 := ds_tri V.out G.out (a := D + 1) (b := B + 1) (c := A) (by omega) (by omega) (by omega)
      have b3 := leastM_bd V.out (D + 1) (B + 1)
      have b4 := leastM_bd V.out (B + 1) (D + 1)
      have b5 := leastM_bd V.out (D + 1) A
      have b6 := leastM_bd V.out A (D + 1)
      rw [← SLO.out, Int.add_comm] at t2
      rw [← SHI.out] at t1
      obtain ⟨rlo, hrlo⟩ : ∃ x, x = ds h (D + 1) (B + 1) := ⟨_, rfl⟩
      obtain ⟨rhi, hrhi⟩ : ∃ x, x = ds h (B + 1) (D + 1) := ⟨_, rfl⟩
      obtain ⟨alo, halo⟩ : ∃ x, x = ds h (D + 1) A := ⟨_, rfl⟩
      obtain ⟨ahi, hahi⟩ : ∃ x, x = ds h A (D + 1) := ⟨_, rfl⟩
      rw [show (leastM h (D + 1)).1.sums (B + 1) = ds h (D + 1) (B + 1) from rfl, ← hrlo] at b3
      rw [show (leastM h (B + 1)).1.sums (D + 1) = ds h (B + 1) (D + 1) from rfl, ← hrhi] at b4
      rw [show (leastM h (D + 1)).1.sums A = ds h (D + 1) A from rfl, ← halo] at b5
      rw [show (leastM h A).1.sums (D + 1) = ds h A (D + 1) from rfl, ← hahi] at b6
      rw [← hrlo, ← hrhi] at d1
      rw [← halo, ← hahi] at d2
      rw [← hrhi, ← hahi] at t1
      rw [← hrlo, ← halo] at t2
      obtain ⟨b31, b32⟩ := b3
      obtain ⟨b41, b42⟩ := b4
      obtain ⟨b51, b52⟩ := b5
      obtain ⟨b61, b62⟩ := b6
      have D1 := Lib.hid d1
      have D2 := Lib.hid d2
      have t2' : -slo + -rlo ≤ -alo := by omega
      clear d1 d2 q1 q2 hrlo hrhi halo hahi t2
      go_wp2_with fail
      refine callW (W0 := X0) (g := g6) (by exact (by repeat (first | exact Below.refl _ _ | refine Ext.al ?_ _ | refine Ext.dr ?_ | refine Ext.drN ?_ _ | refine Ext.gr ?_ _ | refine Ext.set ?_ (by simp) _ | (refine Ext.trans' ?_ (by assumption))))) (D1.out _ (HS.out.ext (by exact (by repeat (first | exact Below.refl _ _ | refine Ext.al ?_ _ | refine Ext.dr ?_ | refine Ext.drN ?_ _ | refine Ext.gr ?_ _ | refine Ext.set ?_ (by simp) _ | (refine Ext.trans' ?_ (by assumption))))))) fun g8 hgr => ?_
      clear hgr
      go_upto_region 18 with (fail)
      obtain ⟨Y0, hY0⟩ : ∃ zz9, zz9 = (grow X0 g8).alloc (.cells #[.int .i64 (-rlo), .int .i64 rhi] 35) := ⟨_, rfl⟩
      have y0 : Y0.cell? ⟨(grow X0 g8).heap.size, 0, none⟩ = some (.int .i64 (-rlo)) := by rw [hY0]; simp [go_sem]
      have y1 : Y0.cell? ⟨(grow X0 g8).heap.size, 1, none⟩ = some (.int .i64 rhi) := by rw [hY0]; simp [go_sem]
      have eY0 : Ext X0 Y0 := by rw [hY0]; exact (by repeat (first | exact Below.refl _ _ | refine Ext.al ?_ _ | refine Ext.dr ?_ | refine Ext.drN ?_ _ | refine Ext.gr ?_ _ | refine Ext.set ?_ (by simp) _ | (refine Ext.trans' ?_ (by assumption))))
      replace k0 := cell_ext eY0 k0
      replace k1 := cell_ext eY0 k1
      replace k2 := cell_ext eY0 k2
      replace x0 := cell_ext eY0 x0
      replace x1 := cell_ext eY0 x1
      replace HS := Lib.hid (HS.out.ext eY0)
      replace HW := Lib.hid (HW.out.trans' eY0)
      rw [← hY0]
      obtain ⟨bR, hbR⟩ : ∃ b, b = (grow X0 g8).heap.size := ⟨_, rfl⟩
      rw [← hbR] at y0 y1 ⊢
      replace hz := World.block_lt_of_cell? _ _ k0
      replace zbS := World.block_lt_of_cell? _ _ x0
      have zbR := World.block_lt_of_cell? _ _ y0
      simp only at zbR
      clear hY0 eY0 hbR
      go_wp2_with fail
      refine callW (W0 := Y0) (g := ⟨Y0, Below.refl _ _⟩) (by exact (by repeat (first | exact Below.refl _ _ | refine Ext.al ?_ _ | refine Ext.dr ?_ | refine Ext.drN ?_ _ | refine Ext.gr ?_ _ | refine Ext.set ?_ (by simp) _ | (refine Ext.trans' ?_ (by assumption))))) (D2.out _ (HS.out.ext (by exact (by repeat (first | exact Below.refl _ _ | refine Ext.al ?_ _ | refine Ext.dr ?_ | refine Ext.drN ?_ _ | refine Ext.gr ?_ _ | refine Ext.set ?_ (by simp) _ | (refine Ext.trans' ?_ (by assumption))))))) fun g9 hgr => ?_
      clear hgr
      go_wp2_with fail
      refine callW (W0 := Y0) (g := g9) (by exact (by repeat (first | exact Below.refl _ _ | refine Ext.al ?_ _ | refine Ext.dr ?_ | refine Ext.drN ?_ _ | refine Ext.gr ?_ _ | refine Ext.set ?_ (by simp) _ | (refine Ext.trans' ?_ (by assumption))))) (works_any _) fun g10 hgr => ?_
      clear hgr
      go_wp2_with fail
      go_ret
      exact ⟨rfl, HW.out.trans' (grow_below Y0 g10)⟩

    · have h10' : decide (h.n < 10) = false := decide_eq_false h10
      clear h10

      go_upto_region 14 with (fail)
      by_cases hlast : (B : Int) = h.n - 1
      · have hl1 : ((B : Int) == h.n - 1) = true := by simpa using hlast
        clear hlast

        go_wp2_with fail
        refine callW (W0 := X0) (g := ⟨X0, Below.refl _ _⟩) (by exact (by repeat (first | exact Below.refl _ _ | refine Ext.al ?_ _ | refine Ext.dr ?_ | refine Ext.drN ?_ _ | refine Ext.gr ?_ _ | refine Ext.set ?_ (by simp) _ | (refine Ext.trans' ?_ (by assumption))))) (works_any _) fun g11 hgr => ?_
        clear hgr
        go_wp2_with fail
        go_ret
        exact ⟨rfl, HW.out.trans' (grow_below X0 g11)⟩

      have hl1 : ((B : Int) == h.n - 1) = false := by simpa using hlast
      obtain ⟨U, hU, hUn⟩ := modN (n := h.n - B - 1) c0 (by omega)
      obtain ⟨D, hD⟩ : ∃ D : Nat, (B : Int) + 1 + U = D := ⟨B + 1 + U, by omega⟩
      have hBD : B < D := by omega
      have hDn : (D : Int) < h.n := by omega
      clear hlast
      go_upto_region 17 with (fail)
      simp only [hU]
      clear hU hD hl1 c0 c1'
      have d1 := fun w hs => span_any h (.slice sa h.cs.length cap) ((B : Int) + 1) (D : Int) w hs
      have d2 := fun w hs => span_any h (.slice sa h.cs.length cap) (A : Int) (D : Int) w hs
      rw [show ((B : Int) + 1) = ((B + 1 : Nat) : Int) from rfl] at d1
      have q1 := spanE_agr V.out (a := B + 1) (b := D) (by omega) (by omega)
      have q2 := spanE_agr V.out (a := A) (b := D) (by omega) (by omega)
      rw [HAG.out] at q1 q2
      replace q1 : spanE h (B + 1 : Nat) D = 0 := q1
      replace q2 : spanE h A D = 0 := q2
      rw [q1, spanLo_agr V.out HAG.out (by omega) (by omega), spanHi_agr V.out HAG.out (by omega) (by omega)] at d1
      rw [q2, spanLo_agr V.out HAG.out (by omega) (by omega), spanHi_agr V.out HAG.out (by omega) (by omega)] at d2
      have t1 := ds_tri V.out G.out (a := A) (b := B + 1) (c := D + 1) (by omega) (by omega) (by omega)
      have t2 := ds_tri V.out G.out (a := D + 1) (b := B + 1) (c := A) (by omega) (by omega) (by omega)
      have b3 := leastM_bd V.out (D + 1) (B + 1)
      have b4 := leastM_bd V.out (B + 1) (D + 1)
      have b5 := leastM_bd V.out (D + 1) A
      have b6 := leastM_bd V.out A (D + 1)
      rw [← SLO.out, Int.add_comm] at t2
      rw [← SHI.out] at t1
      obtain ⟨rlo, hrlo⟩ : ∃ x, x = ds h (D + 1) (B + 1) := ⟨_, rfl⟩
      obtain ⟨rhi, hrhi⟩ : ∃ x, x = ds h (B + 1) (D + 1) := ⟨_, rfl⟩
      obtain ⟨alo, halo⟩ : ∃ x, x = ds h (D + 1) A := ⟨_, rfl⟩
      obtain ⟨ahi, hahi⟩ : ∃ x, x = ds h A (D + 1) := ⟨_, rfl⟩
      rw [show (leastM h (D + 1)).1.sums (B + 1) = ds h (D + 1) (B + 1) from rfl, ← hrlo] at b3
      rw [show (leastM h (B + 1)).1.sums (D + 1) = ds h (B + 1) (D + 1) from rfl, ← hrhi] at b4
      rw [show (leastM h (D + 1)).1.sums A = ds h (D + 1) A from rfl, ← halo] at b5
      rw [show (leastM h A).1.sums (D + 1) = ds h A (D + 1) from rfl, ← hahi] at b6
      rw [← hrlo, ← hrhi] at d1
      rw [← halo, ← hahi] at d2
      rw [← hrhi, ← hahi] at t1
      rw [← hrlo, ← halo] at t2
      obtain ⟨b31, b32⟩ := b3
      obtain ⟨b41, b42⟩ := b4
      obtain ⟨b51, b52⟩ := b5
      obtain ⟨b61, b62⟩ := b6
      have D1 := Lib.hid d1
      have D2 := Lib.hid d2
      have t2' : -slo + -rlo ≤ -alo := by omega
      clear d1 d2 q1 q2 hrlo hrhi halo hahi t2
      go_wp2_with fail
      refine callW (W0 := X0) (g := ⟨X0, Below.refl _ _⟩) (by exact (by repeat (first | exact Below.refl _ _ | refine Ext.al ?_ _ | refine Ext.dr ?_ | refine Ext.drN ?_ _ | refine Ext.gr ?_ _ | refine Ext.set ?_ (by simp) _ | (refine Ext.trans' ?_ (by assumption))))) (D1.out _ (HS.out.ext (by exact (by repeat (first | exact Below.refl _ _ | refine Ext.al ?_ _ | refine Ext.dr ?_ | refine Ext.drN ?_ _ | refine Ext.gr ?_ _ | refine Ext.set ?_ (by simp) _ | (refine Ext.trans' ?_ (by assumption))))))) fun g12 hgr => ?_
      clear hgr
      go_upto_region 18 with (fail)
      obtain ⟨Y0, hY0⟩ : ∃ zz9, zz9 = (grow X0 g12).alloc (.cells #[.int .i64 (-rlo), .int .i64 rhi] 35) := ⟨_, rfl⟩
      have y0 : Y0.cell? ⟨(grow X0 g12).heap.size, 0, none⟩ = some (.int .i64 (-rlo)) := by rw [hY0]; simp [go_sem]
      have y1 : Y0.cell? ⟨(grow X0 g12).heap.size, 1, none⟩ = some (.int .i64 rhi) := by rw [hY0]; simp [go_sem]
      have eY0 : Ext X0 Y0 := by rw [hY0]; exact (by repeat (first | exact Below.refl _ _ | refine Ext.al ?_ _ | refine Ext.dr ?_ | refine Ext.drN ?_ _ | refine Ext.gr ?_ _ | refine Ext.set ?_ (by simp) _ | (refine Ext.trans' ?_ (by assumption))))
      replace k0 := cell_ext eY0 k0
      replace k1 := cell_ext eY0 k1
      replace k2 := cell_ext eY0 k2
      replace x0 := cell_ext eY0 x0
      replace x1 := cell_ext eY0 x1
      replace HS := Lib.hid (HS.out.ext eY0)
      replace HW := Lib.hid (HW.out.trans' eY0)
      rw [← hY0]
      obtain ⟨bR, hbR⟩ : ∃ b, b = (grow X0 g12).heap.size := ⟨_, rfl⟩
      rw [← hbR] at y0 y1 ⊢
      replace hz := World.block_lt_of_cell? _ _ k0
      replace zbS := World.block_lt_of_cell? _ _ x0
      have zbR := World.block_lt_of_cell? _ _ y0
      simp only at zbR
      clear hY0 eY0 hbR
      go_wp2_with fail
      refine callW (W0 := Y0) (g := ⟨Y0, Below.refl _ _⟩) (by exact (by repeat (first | exact Below.refl _ _ | refine Ext.al ?_ _ | refine Ext.dr ?_ | refine Ext.drN ?_ _ | refine Ext.gr ?_ _ | refine Ext.set ?_ (by simp) _ | (refine Ext.trans' ?_ (by assumption))))) (D2.out _ (HS.out.ext (by exact (by repeat (first | exact Below.refl _ _ | refine Ext.al ?_ _ | refine Ext.dr ?_ | refine Ext.drN ?_ _ | refine Ext.gr ?_ _ | refine Ext.set ?_ (by simp) _ | (refine Ext.trans' ?_ (by assumption))))))) fun g13 hgr => ?_
      clear hgr
      go_wp2_with fail
      refine callW (W0 := Y0) (g := g13) (by exact (by repeat (first | exact Below.refl _ _ | refine Ext.al ?_ _ | refine Ext.dr ?_ | refine Ext.drN ?_ _ | refine Ext.gr ?_ _ | refine Ext.set ?_ (by simp) _ | (refine Ext.trans' ?_ (by assumption))))) (works_any _) fun g14 hgr => ?_
      clear hgr
      go_wp2_with fail
      go_ret
      exact ⟨rfl, HW.out.trans' (grow_below Y0 g14)⟩


open Go.ChangeShapes Go.WideShapes Go.ChangeAt in
set_option maxRecDepth 100000 in
theorem cutJoined_lifted (os : Os) (started : os.Started) (H : Type) (enc : TypeId × Value → H) :
    ReturnsInHanded {} Try.checked os 12 .any (Rows.cutJoinedSpec.pre6 enc Try.prog Try.f12 Rows.cutJoinedRow.domain false) (Rows.cutJoinedSpec.post enc Try.prog Try.f12 false true false false) := by
  refine returnsInHanded_of_change (C := Try.checked) own started (by kernel_rfl) Try.func12
    (ChangeSpec.witness6 (enc := enc) (C := Try.checked) false ⟨#[], #[.agg #[.int .i64 0, .int .i64 0, .slice none 0 0], .int .u8 0, .int .u8 0, .int .u8 0], []⟩ 8 (by kernel_rfl) (by kernel_rfl) (by kernel_rfl) (by kernel_rfl)) ?_
  intro W base args ds gs before hval0 hW hcnd _
  have hval : ∀ (j : Nat) t v, Try.f12.params[j]? = some t → args[j]? = some v → Value.okWide Try.prog W .any base t v := hval0
  have hW' := hW
  obtain ⟨p, q, hA0, hV, rfl, hfz, hnd⟩ := hW
  have hA : DataW.TrodAll enc Try.prog W 0 (fun _ => true) true Try.f12.params.toList args.toList ds p := hA0
  rw [Try.params12] at hA hval
  obtain ⟨v0, vs0, d0, ds0, p0, q0, hargs, rfl, rfl, h0, r0⟩ := trodAll_cons hA
  obtain ⟨v1, vs1, d1, ds1, p1, q1, rfl, rfl, rfl, h1, r1⟩ := trodAll_cons r0
  obtain ⟨v2, vs2, d2, ds2, p2, q2, rfl, rfl, rfl, h2, r2⟩ := trodAll_cons r1
  obtain ⟨v3, vs3, d3, ds3, p3, q3, rfl, rfl, rfl, h3, r3⟩ := trodAll_cons r2
  obtain ⟨rfl, rfl, rfl⟩ := trodAll_nil r3
  obtain rfl : args = #[v0, v1, v2, v3] := by cases args; simp_all
  obtain ⟨hh, shh, rfl, hhh⟩ := openHall (hval 0 24 v0 rfl rfl) h0
  obtain ⟨a, rfl, rfl, rfl, wa⟩ := open_int Try.underlying5 (hval 1 5 v1 rfl rfl) h1
  obtain ⟨b, rfl, rfl, rfl, wb⟩ := open_int Try.underlying5 (hval 2 5 v2 rfl rfl) h2
  obtain ⟨c, rfl, rfl, rfl, wc⟩ := open_int Try.underlying5 (hval 3 5 v3 rfl rfl) h3
  clear hA0 hval0
  refine (cutJoined_any hh shh a b c W hhh wa wb wc).mono fun e W' ⟨he, hb⟩ => ?_
  subst he
  exact ⟨_, rfl, law_post laidOut (tb := 4) (hts_of (by kernel_rfl)) (by kernel_rfl) Try.underlying4 hW' rfl rfl hb⟩
theorem cutJoined_holds : Rows.CutJoinedSaid :=
  OpenClaim.holds_of_wide 12 Try.f12 rfl rfl rfl rfl rfl rfl rfl ⟨rfl, rfl, rfl, rfl, rfl⟩ rfl rfl rfl rfl rfl (by kernel_rfl) Try.func12 (by kernel_rfl)
    (of_decide_eq_true (by kernel_rfl)) (by unfold Func.isWrapper; first | (rw [if_pos (by decide +kernel)]; kernel_rfl) | (rw [if_neg (by decide +kernel)]; exact ⟨rfl, rfl⟩))
    (fun os started H enc _ => cutJoined_lifted os started H enc)
end Go.Proofs.Ytgcldgchhdjnhaa
