/-
  The statement CutTurned holds: if the windows come in the opposite order, spans go with them, and the same counters can be wrong; for every hall and any three numbers that are handed in. No condition.
-/
import Derived.Test.YtgcldgchhdjnhaaProved
import Derived.Test.YtgcldgchhdjnhaaMath2
import Derived.Test.YtgcldgchhdjnhaaFin
namespace Go.Proofs.Ytgcldgchhdjnhaa
open Go.RowKit Go.Shelf
theorem wrong_rev {h : Hall} (v : Valid h) : wrongL (revH h) = wrongL h := by
  unfold wrongL; rw [if_pos (chk_of_valid (rev_valid v)), if_pos (chk_of_valid v), fewest_rev v]
theorem kindE_rev {h : Hall} (v : Valid h) (c : Int) : kindErr (revH h) c = kindErr h c := by
  unfold kindErr
  rw [chk_of_valid (rev_valid v), chk_of_valid v]
  simp [revH]
theorem kind_rev {h : Hall} (v : Valid h) (c : Int) : kindN (revH h) c = kindN h c := by
  unfold kindN
  rw [kindE_rev v, fewest_rev v]
theorem agr_revM {h : Hall} (v : Valid h) : (leastM (revH h) 0).2 = (leastM h 0).2 := by
  rw [Bool.eq_iff_iff, agr_iff (rev_valid v), agr_iff v, agr_rev v]
theorem bool_ne_int {a b : Int} : (decide (a = b)) = (a == b) := by
  rw [Bool.eq_iff_iff]; simp
set_option maxRecDepth 100000 in
set_option maxHeartbeats 4000000 in
theorem cutTurned_any (h : Hall) (sv : Value) (f t g : Int) (w : World) (hs : IsCnts w sv h.cs) (wf : (Lit.int .u8 f).wf = true) (wt : (Lit.int .u8 t).wf = true) (wg : (Lit.int .u8 g).wf = true) :
    Calls Try.prog 14 #[.agg #[.int .i64 h.n, .int .i64 h.most, sv], .int .u8 f, .int .u8 t, .int .u8 g] w fun e w' => e = .returned (.bool true) ∧ Ext w w' := by
  obtain ⟨sa, cap, rfl, hl1, hl2, -⟩ := hs.spec
  obtain ⟨f0, f1⟩ := bounds_u8 wf
  obtain ⟨t0, t1⟩ := bounds_u8 wt
  obtain ⟨g0, g1'⟩ := bounds_u8 wg
  have HS0 := Lib.hid hs
  clear hs wf wt wg
  go_enter Try.func14, Try.ntmps14
  go_upto_region 1 with (fail)
  obtain ⟨W0, hW0⟩ : ∃ W0, W0 = w.alloc (.cells #[.int .i64 h.n, .int .i64 h.most, .slice sa h.cs.length cap] 24) := ⟨_, rfl⟩
  have hE : Ext w W0 := by rw [hW0]; exact (by repeat (first | exact Below.refl _ _ | refine Ext.al ?_ _ | refine Ext.dr ?_ | refine Ext.drN ?_ _ | refine Ext.gr ?_ _ | refine Ext.set ?_ (by simp) _ | (refine Ext.trans' ?_ (by assumption))))
  have k0 : W0.cell? ⟨w.heap.size, 0, none⟩ = some (.int .i64 h.n) := by rw [hW0]; simp [go_sem]
  have k1 : W0.cell? ⟨w.heap.size, 1, none⟩ = some (.int .i64 h.most) := by rw [hW0]; simp [go_sem]
  have k2 : W0.cell? ⟨w.heap.size, 2, none⟩ = some (.slice sa h.cs.length cap) := by rw [hW0]; simp [go_sem]
  have hz : w.heap.size < W0.heap.size := World.block_lt_of_cell? _ _ k0
  have HS := Lib.hid (HS0.out.ext hE)
  have HW := Lib.hid hE
  rw [← hW0]
  clear hW0 HS0
  clear hE

  go_wp2_with fail
  refine callW (W0 := W0) (g := ⟨W0, Below.refl _ _⟩) (by exact (by repeat (first | exact Below.refl _ _ | refine Ext.al ?_ _ | refine Ext.dr ?_ | refine Ext.drN ?_ _ | refine Ext.gr ?_ _ | refine Ext.set ?_ (by simp) _ | (refine Ext.trans' ?_ (by assumption))))) (fine_any h _ _ (HS.out.ext (by exact (by repeat (first | exact Below.refl _ _ | refine Ext.al ?_ _ | refine Ext.dr ?_ | refine Ext.drN ?_ _ | refine Ext.gr ?_ _ | refine Ext.set ?_ (by simp) _ | (refine Ext.trans' ?_ (by assumption))))))) fun g1 hgr => ?_
  clear hgr
  by_cases hc : chk h = 0
  rotate_left
  · rw [show (chk h == 0) = false by simpa using hc]
    clear hc

    go_wp2_with fail
    refine callW (W0 := W0) (g := g1) (by exact (by repeat (first | exact Below.refl _ _ | refine Ext.al ?_ _ | refine Ext.dr ?_ | refine Ext.drN ?_ _ | refine Ext.gr ?_ _ | refine Ext.set ?_ (by simp) _ | (refine Ext.trans' ?_ (by assumption))))) (works_any _) fun g2 hgr => ?_
    clear hgr
    go_wp2_with fail
    go_ret
    exact ⟨rfl, HW.out.trans' (grow_below W0 g2)⟩

  rw [show (chk h == 0) = true by simpa using hc]
  have V := Lib.hid (valid_of_chk hc)
  have n1 := V.out.n1
  have n10 := V.out.n10
  have hlen := V.out.len
  have HC := Lib.hid hc
  clear hc
  go_upto_region 3 with (fail)
  obtain ⟨W1, hW1⟩ : ∃ zz9, zz9 = (grow W0 g1) := ⟨_, rfl⟩
  have eW1 : Ext W0 W1 := by rw [hW1]; exact (by repeat (first | exact Below.refl _ _ | refine Ext.al ?_ _ | refine Ext.dr ?_ | refine Ext.drN ?_ _ | refine Ext.gr ?_ _ | refine Ext.set ?_ (by simp) _ | (refine Ext.trans' ?_ (by assumption))))
  replace k0 := cell_ext eW1 k0
  replace k1 := cell_ext eW1 k1
  replace k2 := cell_ext eW1 k2
  replace HS := Lib.hid (HS.out.ext eW1)
  replace HW := Lib.hid (HW.out.trans' eW1)
  rw [← hW1]
  replace hz := World.block_lt_of_cell? _ _ k0
  clear hW1 eW1
  go_wp2_with fail
  go_loopw [10] (fun i W => ∃ (k : Nat) (xv : Value), k ≤ h.cs.length ∧ i = .int .i64 k ∧ Ext W1 W ∧ W.heap[W1.heap.size]? = some (.cells #[.int .i64 h.n, .int .i64 h.most, xv] 24 (0, 0)) ∧ Owns W (W1.heap.size + 1) 70 4 xv (((h.cs.take k).map (revC h.n)).map Cnt.cells)) (fun i _ => h.cs.length - (intOf i).toNat)
  case atStart => exact ⟨0, _, Nat.zero_le _, rfl, (by repeat (first | exact Below.refl _ _ | refine Ext.al ?_ _ | refine Ext.dr ?_ | refine Ext.drN ?_ _ | refine Ext.gr ?_ _ | refine Ext.set ?_ (by simp) _ | (refine Ext.trans' ?_ (by assumption)))), by show (W1.heap.push _)[W1.heap.size]? = _; rw [Array.getElem?_push, if_pos rfl], Owns.nil _ _ _ _⟩
  case round =>
    obtain ⟨k, xv, hk, rfl, hE, hX, hown⟩ := hrel
    have x2 : wr.cell? ⟨W1.heap.size, 2, none⟩ = some xv := by rw [cell_of_row _ _ _ _ _ _ hX]; rfl
    have xf : wr.frozen? ⟨W1.heap.size, 2, none⟩ = false := by simp [World.frozen?, hX]
    have HE := Lib.hid hE
    have HX := Lib.hid hX
    have HO := Lib.hid hown
    have hzx := World.block_lt_of_cell? _ _ x2
    simp only at hzx
    by_cases hlt : k < h.cs.length
    · rcases (HS.out.ext hE).opened with e | ⟨cb, coff, rfl, hcc⟩
      · simp [e] at hlt
      obtain ⟨d0, d1, d2, d3⟩ := hcc k hlt
      have hcb := V.out.cs h.cs[k] (List.getElem_mem hlt)
      have htk : (h.cs.take (k + 1)).map (revC h.n) = (h.cs.take k).map (revC h.n) ++ [revC h.n h.cs[k]] := by rw [List.take_succ_eq_append_getElem hlt, List.map_append]; rfl
      obtain ⟨c, hc⟩ : ∃ c, c = h.cs[k] := ⟨_, rfl⟩
      rw [← hc] at d0 d1 d2 d3 hcb htk
      obtain ⟨b1, b2, b3, b4, b5, b6⟩ := hcb
      have HTK := Lib.hid htk
      have k0' := cell_ext hE k0
      have k1' := cell_ext hE k1
      have k2' := cell_ext hE k2
      have hki : (k : Int) < (h.cs.length : Int) := by omega
      have hzr := World.block_lt_of_cell? _ _ k0'
      simp only at hzr
      clear hcc hE hX hown htk hc
      obtain ⟨xa, xn, xc, rfl⟩ := HO.out.isSlice
      go_wp2_with (at_builtin; refine wpOwn rfl (.tmp 47) (.tmp 63) elCnt rfl (W1.heap.size + 1) rfl (HO.out.ext (by exact (by repeat (first | exact Below.refl _ _ | refine Ext.al ?_ _ | refine Ext.dr ?_ | refine Ext.drN ?_ _ | refine Ext.gr ?_ _ | refine Ext.set ?_ (by simp) _ | (refine Ext.trans' ?_ (by assumption)))))) _ 0 1 [(revC h.n c).cells] rfl (by simp [Cnt.cells]) (rowsAt_one (fun j hj => by
          have hj4 : j < 4 := by simpa [Cnt.cells] using hj
          match j, hj4 with
          | 0, _ => simp [go_sem, Cnt.cells, revC]
          | 1, _ => simp [go_sem, Cnt.cells, revC]
          | 2, _ => simp [go_sem, Cnt.cells, revC]
          | 3, _ => simp [go_sem, Cnt.cells, revC])) (by simp [Cnt.cells, Value.oneCell']) (by simp; omega) (by simp [go_sem]; omega) ?_)
      intro v' w' hown' hb'
      obtain ⟨sa', n', cap', rfl⟩ := hown'.isSlice
      have hb2 : Below (W1.heap.size + 1) wr w' := Below.trans (((Below.refl _ wr).alloc (by omega) _).alloc (by simp; omega) _) hb'
      have hX' : w'.heap[W1.heap.size]? = some (.cells #[.int .i64 h.n, .int .i64 h.most, .slice xa xn xc] 24 (0, 0)) := (hb2.block _ (by omega)).trans HX.out
      have xf' : w'.frozen? ⟨W1.heap.size, 2, none⟩ = false := by simp [World.frozen?, hX']
      have x2' : w'.cell? ⟨W1.heap.size, 2, none⟩ = some (.slice xa xn xc) := by rw [cell_of_row _ _ _ _ _ _ hX']; rfl
      have hz' : W1.heap.size < w'.heap.size := World.block_lt_of_cell? _ _ x2'
      have HX' := Lib.hid hX'
      have HO' := Lib.hid hown'
      have HB' := Lib.hid hb2
      clear hb' hb2 hX' hown' x2 xf d0 d1 d2 d3 b1 b2 b3 b4 b5 b6
      go_wp2_with fail
      go_roundw
      case rel =>
        refine ⟨k + 1, .slice sa' n' cap', by omega, by go_num, (HE.out.trans (HB'.out.mono (by omega))).setCell (Nat.le_refl _) _, ?_, ?_⟩
        · rw [heap_setCell_row HX'.out]; rfl
        · rw [HTK.out]
          have := HO'.out.of_heap (w' := w'.setCell ⟨W1.heap.size, 2, none⟩ (.slice sa' n' cap')) fun j hj _ => Below.heap_setCell _ _ _ _ (by simp only; omega)
          simpa using this
      case measure => simp [intOf]; omega
    · obtain rfl : k = h.cs.length := by omega
      have hcs : IsCnts wr xv (revH h).cs := by
        have := hown.isRows
        rwa [List.take_length] at this
      have hx0 : wr.cell? ⟨W1.heap.size, 0, none⟩ = some (.int .i64 h.n) := by rw [cell_of_row _ _ _ _ _ _ hX]; rfl
      have hx1 : wr.cell? ⟨W1.heap.size, 1, none⟩ = some (.int .i64 h.most) := by rw [cell_of_row _ _ _ _ _ _ hX]; rfl
      obtain ⟨gk, rfl⟩ := grow_of hE
      obtain ⟨xa, xcap, rfl, -⟩ := hcs.spec
      have hlr : (revH h).cs.length = h.cs.length := by simp [revH]
      rw [hlr] at hcs x2
      have HX2 := Lib.hid hcs
      clear hE hX hown hcs hlr xf HE HX HO hzx
      obtain ⟨A, hA, hAn⟩ := modN f0 n1
      obtain ⟨T, hT, hTn⟩ := modN (n := h.n - A) t0 (by omega)
      obtain ⟨B, hB⟩ : ∃ B : Nat, (A : Int) + T = B := ⟨A + T, by omega⟩
      have hAB : A ≤ B := by omega
      have hBn : (B : Int) < h.n := by omega
      go_upto_region 11 with (fail)
      simp only [hA, hT]
      clear hA hT hB f0 f1 t0 t1


      obtain ⟨Y0, hY0⟩ : ∃ zz9, zz9 = (grow W1 gk) := ⟨_, rfl⟩
      have x0 : Y0.cell? ⟨W1.heap.size, 0, none⟩ = some (.int .i64 h.n) := by rw [hY0]; simp [go_sem, hx0, hx1, x2]
      have x1 : Y0.cell? ⟨W1.heap.size, 1, none⟩ = some (.int .i64 h.most) := by rw [hY0]; simp [go_sem, hx0, hx1, x2]
      have x2' : Y0.cell? ⟨W1.heap.size, 2, none⟩ = some (.slice xa h.cs.length xcap) := by rw [hY0]; simp [go_sem, hx0, hx1, x2]
      have eY0 : Ext W1 Y0 := by rw [hY0]; exact (by repeat (first | exact Below.refl _ _ | refine Ext.al ?_ _ | refine Ext.dr ?_ | refine Ext.drN ?_ _ | refine Ext.gr ?_ _ | refine Ext.set ?_ (by simp) _ | (refine Ext.trans' ?_ (by assumption))))
      have eY0c : Ext (grow W1 gk) Y0 := by rw [hY0]; exact (by repeat (first | exact Below.refl _ _ | refine Ext.al ?_ _ | refine Ext.dr ?_ | refine Ext.drN ?_ _ | refine Ext.gr ?_ _ | refine Ext.set ?_ (by simp) _ | (refine Ext.trans' ?_ (by assumption))))
      replace k0 := cell_ext eY0 k0
      replace k1 := cell_ext eY0 k1
      replace k2 := cell_ext eY0 k2
      replace HS := Lib.hid (HS.out.ext eY0)
      replace HX2 := Lib.hid (HX2.out.ext eY0c)
      replace HW := Lib.hid (HW.out.trans' eY0)
      rw [← hY0]
      replace hz := World.block_lt_of_cell? _ _ k0
      clear hY0 eY0 eY0c
      have zx := World.block_lt_of_cell? _ _ x0
      simp only at zx

      clear hx0 hx1 x2
      obtain ⟨C, hC⟩ : ∃ C : Nat, h.n - 1 - (B : Int) = C := ⟨(h.n - 1 - B).toNat, by omega⟩
      obtain ⟨D, hD⟩ : ∃ D : Nat, h.n - 1 - (A : Int) = D := ⟨(h.n - 1 - A).toNat, by omega⟩
      have hCD : C ≤ D := by omega
      have hDn : (D : Int) < h.n := by omega
      have VR := rev_valid V.out
      have d1 := fun w hs => span_any h (.slice sa h.cs.length cap) (A : Int) (B : Int) w hs
      have d2 := fun w hs => span_any (revH h) (.slice xa h.cs.length xcap) (C : Int) (D : Int) w hs
      have c3 := fun w hs => wrong_fin h (.slice sa h.cs.length cap) w hs
      have c4 := fun w hs => wrong_fin (revH h) (.slice xa h.cs.length xcap) w hs
      unfold RetWrong at c3 c4
      rw [HC.out] at c3
      rw [chk_of_valid VR, wrong_rev V.out] at c4
      have hwn := (wrong_nil V.out).1
      rw [← agr_iff V.out] at hwn
      obtain ⟨l, hl⟩ : ∃ l, l = wrongL h := ⟨_, rfl⟩
      rw [← hl] at c3 c4 hwn
      have C3 := Lib.hid c3
      have C4 := Lib.hid c4
      clear c3 c4 hl
      have hagr := agr_revM V.out
      cases hag : (leastM h 0).2
      · obtain ⟨q1, q2, q3⟩ := span_not V.out hag (a := A) (b := B) (by omega) (by omega)
        rw [q1, q2, q3] at d1
        obtain ⟨q4, q5, q6⟩ := span_not VR (hagr.trans hag) (a := C) (b := D) (by omega) (by show (D : Int) < h.n; omega)
        rw [q4, q5, q6, ← hC, ← hD] at d2
        have hl0 : ((l.length : Int) == 0) = false := by
          cases l with
          | nil => have := hwn.1 rfl; rw [hag] at this; cases this
          | cons => simp; omega
        have D1 := Lib.hid d1
        have D2 := Lib.hid d2
        clear d1 d2 q1 q2 q3 q4 q5 q6 hwn hagr hag VR hC hD hCD hDn

        go_wp2_with fail
        refine callW (W0 := Y0) (g := ⟨Y0, Below.refl _ _⟩) (by exact (by repeat (first | exact Below.refl _ _ | refine Ext.al ?_ _ | refine Ext.dr ?_ | refine Ext.drN ?_ _ | refine Ext.gr ?_ _ | refine Ext.set ?_ (by simp) _ | (refine Ext.trans' ?_ (by assumption))))) (D1.out _ (HS.out.ext (by exact (by repeat (first | exact Below.refl _ _ | refine Ext.al ?_ _ | refine Ext.dr ?_ | refine Ext.drN ?_ _ | refine Ext.gr ?_ _ | refine Ext.set ?_ (by simp) _ | (refine Ext.trans' ?_ (by assumption))))))) fun g3 hgr => ?_
        clear hgr
        go_upto_region 12 with (fail)
        obtain ⟨Z0, hZ0⟩ : ∃ zz9, zz9 = (grow Y0 g3).alloc (.cells #[.int .i64 0, .int .i64 0] 35) := ⟨_, rfl⟩
        have s0 : Z0.cell? ⟨(grow Y0 g3).heap.size, 0, none⟩ = some (.int .i64 0) := by rw [hZ0]; simp [go_sem]
        have s1 : Z0.cell? ⟨(grow Y0 g3).heap.size, 1, none⟩ = some (.int .i64 0) := by rw [hZ0]; simp [go_sem]
        have eZ0 : Ext Y0 Z0 := by rw [hZ0]; exact (by repeat (first | exact Below.refl _ _ | refine Ext.al ?_ _ | refine Ext.dr ?_ | refine Ext.drN ?_ _ | refine Ext.gr ?_ _ | refine Ext.set ?_ (by simp) _ | (refine Ext.trans' ?_ (by assumption))))
        replace k0 := cell_ext eZ0 k0
        replace k1 := cell_ext eZ0 k1
        replace k2 := cell_ext eZ0 k2
        replace x0 := cell_ext eZ0 x0
        replace x1 := cell_ext eZ0 x1
        replace x2' := cell_ext eZ0 x2'
        replace HS := Lib.hid (HS.out.ext eZ0)
        replace HX2 := Lib.hid (HX2.out.ext eZ0)
        replace HW := Lib.hid (HW.out.trans' eZ0)
        rw [← hZ0]
        obtain ⟨bS, hbS⟩ : ∃ b, b = (grow Y0 g3).heap.size := ⟨_, rfl⟩
        rw [← hbS] at s0 s1 ⊢
        replace hz := World.block_lt_of_cell? _ _ k0
        replace zx := World.block_lt_of_cell? _ _ x0
        have zbS := World.block_lt_of_cell? _ _ s0
        simp only at zbS
        clear hZ0 eZ0 hbS
        go_wp2_with fail
        refine callW (W0 := Z0) (g := ⟨Z0, Below.refl _ _⟩) (by exact (by repeat (first | exact Below.refl _ _ | refine Ext.al ?_ _ | refine Ext.dr ?_ | refine Ext.drN ?_ _ | refine Ext.gr ?_ _ | refine Ext.set ?_ (by simp) _ | (refine Ext.trans' ?_ (by assumption))))) (D2.out _ (HX2.out.ext (by exact (by repeat (first | exact Below.refl _ _ | refine Ext.al ?_ _ | refine Ext.dr ?_ | refine Ext.drN ?_ _ | refine Ext.gr ?_ _ | refine Ext.set ?_ (by simp) _ | (refine Ext.trans' ?_ (by assumption))))))) fun g4 hgr => ?_
        clear hgr
        go_upto_region 13 with (fail)
        obtain ⟨Z1, hZ1⟩ : ∃ zz9, zz9 = (grow Z0 g4).alloc (.cells #[.int .i64 0, .int .i64 0] 35) := ⟨_, rfl⟩
        have r0 : Z1.cell? ⟨(grow Z0 g4).heap.size, 0, none⟩ = some (.int .i64 0) := by rw [hZ1]; simp [go_sem]
        have r1 : Z1.cell? ⟨(grow Z0 g4).heap.size, 1, none⟩ = some (.int .i64 0) := by rw [hZ1]; simp [go_sem]
        have eZ1 : Ext Z0 Z1 := by rw [hZ1]; exact (by repeat (first | exact Below.refl _ _ | refine Ext.al ?_ _ | refine Ext.dr ?_ | refine Ext.drN ?_ _ | refine Ext.gr ?_ _ | refine Ext.set ?_ (by simp) _ | (refine Ext.trans' ?_ (by assumption))))
        replace k0 := cell_ext eZ1 k0
        replace k1 := cell_ext eZ1 k1
        replace k2 := cell_ext eZ1 k2
        replace x0 := cell_ext eZ1 x0
        replace x1 := cell_ext eZ1 x1
        replace x2' := cell_ext eZ1 x2'
        replace s0 := cell_ext eZ1 s0
        replace s1 := cell_ext eZ1 s1
        replace HS := Lib.hid (HS.out.ext eZ1)
        replace HX2 := Lib.hid (HX2.out.ext eZ1)
        replace HW := Lib.hid (HW.out.trans' eZ1)
        rw [← hZ1]
        obtain ⟨bR, hbR⟩ : ∃ b, b = (grow Z0 g4).heap.size := ⟨_, rfl⟩
        rw [← hbR] at r0 r1 ⊢
        replace hz := World.block_lt_of_cell? _ _ k0
        replace zx := World.block_lt_of_cell? _ _ x0
        replace zbS := World.block_lt_of_cell? _ _ s0
        have zbR := World.block_lt_of_cell? _ _ r0
        simp only at zbR
        clear hZ1 eZ1 hbR
        go_wp2_with fail
        refine callWR (W0 := Z1) (g := ⟨Z1, Below.refl _ _⟩) (by exact (by repeat (first | exact Below.refl _ _ | refine Ext.al ?_ _ | refine Ext.dr ?_ | refine Ext.drN ?_ _ | refine Ext.gr ?_ _ | refine Ext.set ?_ (by simp) _ | (refine Ext.trans' ?_ (by assumption))))) (C3.out _ (HS.out.ext (by exact (by repeat (first | exact Below.refl _ _ | refine Ext.al ?_ _ | refine Ext.dr ?_ | refine Ext.drN ?_ _ | refine Ext.gr ?_ _ | refine Ext.set ?_ (by simp) _ | (refine Ext.trans' ?_ (by assumption))))))) (fun _ _ ⟨_, _, r, _⟩ => r) fun _ g5 hgr hr => ?_
        obtain ⟨lv, rfl, -, hlv⟩ := hr
        clear hgr
        have HLV := Lib.hid hlv
        obtain ⟨la, lcap, rfl, -⟩ := hlv.spec
        clear hlv

        go_wp2_with fail
        refine callWR (W0 := Z1) (g := g5) (by exact (by repeat (first | exact Below.refl _ _ | refine Ext.al ?_ _ | refine Ext.dr ?_ | refine Ext.drN ?_ _ | refine Ext.gr ?_ _ | refine Ext.set ?_ (by simp) _ | (refine Ext.trans' ?_ (by assumption))))) (C4.out _ (HX2.out.ext (by exact (by repeat (first | exact Below.refl _ _ | refine Ext.al ?_ _ | refine Ext.dr ?_ | refine Ext.drN ?_ _ | refine Ext.gr ?_ _ | refine Ext.set ?_ (by simp) _ | (refine Ext.trans' ?_ (by assumption))))))) (fun _ _ ⟨_, _, r, _⟩ => r) fun _ g6 hgr hr => ?_
        obtain ⟨mv, rfl, -, hmv⟩ := hr
        replace HLV := Lib.hid (HLV.out.ext hgr)
        clear hgr
        have HMV := Lib.hid hmv
        obtain ⟨ma, mcap, rfl, -⟩ := hmv.spec
        clear hmv

        have ci := fun av bv w ha hb => ints_any l l av bv w ha hb
        rw [show decide (l = l) = true by simp] at ci
        have CI := Lib.hid ci
        clear ci
        go_wp2_with fail
        refine callW (W0 := Z1) (g := g6) (by exact (by repeat (first | exact Below.refl _ _ | refine Ext.al ?_ _ | refine Ext.dr ?_ | refine Ext.drN ?_ _ | refine Ext.gr ?_ _ | refine Ext.set ?_ (by simp) _ | (refine Ext.trans' ?_ (by assumption))))) (CI.out _ _ _ (HLV.out.ext (by exact (by repeat (first | exact Below.refl _ _ | refine Ext.al ?_ _ | refine Ext.dr ?_ | refine Ext.drN ?_ _ | refine Ext.gr ?_ _ | refine Ext.set ?_ (by simp) _ | (refine Ext.trans' ?_ (by assumption)))))) (HMV.out.ext (by exact (by repeat (first | exact Below.refl _ _ | refine Ext.al ?_ _ | refine Ext.dr ?_ | refine Ext.drN ?_ _ | refine Ext.gr ?_ _ | refine Ext.set ?_ (by simp) _ | (refine Ext.trans' ?_ (by assumption))))))) fun g7 hgr => ?_
        replace HLV := Lib.hid (HLV.out.ext hgr)
        replace HMV := Lib.hid (HMV.out.ext hgr)
        clear hgr
        go_upto_region 17 with (fail)
        by_cases hn0 : h.cs.length = 0
        · have hn1 : ((h.cs.length : Int) == 0) = true := by simp [hn0]
          clear hn0

          go_wp2_with fail
          refine callW (W0 := Z1) (g := g7) (by exact (by repeat (first | exact Below.refl _ _ | refine Ext.al ?_ _ | refine Ext.dr ?_ | refine Ext.drN ?_ _ | refine Ext.gr ?_ _ | refine Ext.set ?_ (by simp) _ | (refine Ext.trans' ?_ (by assumption))))) (works_any _) fun g8 hgr => ?_
          replace HLV := Lib.hid (HLV.out.ext hgr)
          replace HMV := Lib.hid (HMV.out.ext hgr)
          clear hgr
          go_wp2_with fail
          go_ret
          exact ⟨rfl, HW.out.trans' (grow_below Z1 g8)⟩

        have hn1 : ((h.cs.length : Int) == 0) = false := by simpa using hn0
        obtain ⟨K, hK, hKn⟩ := modN (n := (h.cs.length : Int)) g0 (by omega)
        go_upto_region 20 with (fail)
        simp only [hK]
        clear hK hn1 g0 g1'
        have c5 := fun w hs => kind_fin h (.slice sa h.cs.length cap) (K : Int) w hs
        have c6 := fun w hs => kind_fin (revH h) (.slice xa h.cs.length xcap) (K : Int) w hs
        have hke : kindErr h K = 0 := by unfold kindErr; rw [if_neg (fun hh => hh (chk_of_valid V.out)), if_neg (by omega)]
        rw [kindE_rev V.out, kind_rev V.out, hke] at c6
        rw [hke] at c5
        obtain ⟨kn, hkn⟩ : ∃ kn, kn = kindN h K := ⟨_, rfl⟩
        rw [← hkn] at c5 c6
        have C5 := Lib.hid c5
        have C6 := Lib.hid c6
        clear c5 c6 hke hkn
        go_wp2_with fail
        refine callW (W0 := Z1) (g := g7) (by exact (by repeat (first | exact Below.refl _ _ | refine Ext.al ?_ _ | refine Ext.dr ?_ | refine Ext.drN ?_ _ | refine Ext.gr ?_ _ | refine Ext.set ?_ (by simp) _ | (refine Ext.trans' ?_ (by assumption))))) (C5.out _ (HS.out.ext (by exact (by repeat (first | exact Below.refl _ _ | refine Ext.al ?_ _ | refine Ext.dr ?_ | refine Ext.drN ?_ _ | refine Ext.gr ?_ _ | refine Ext.set ?_ (by simp) _ | (refine Ext.trans' ?_ (by assumption))))))) fun g9 hgr => ?_
        replace HLV := Lib.hid (HLV.out.ext hgr)
        replace HMV := Lib.hid (HMV.out.ext hgr)
        clear hgr
        go_wp2_with fail
        refine callW (W0 := Z1) (g := g9) (by exact (by repeat (first | exact Below.refl _ _ | refine Ext.al ?_ _ | refine Ext.dr ?_ | refine Ext.drN ?_ _ | refine Ext.gr ?_ _ | refine Ext.set ?_ (by simp) _ | (refine Ext.trans' ?_ (by assumption))))) (C6.out _ (HX2.out.ext (by exact (by repeat (first | exact Below.refl _ _ | refine Ext.al ?_ _ | refine Ext.dr ?_ | refine Ext.drN ?_ _ | refine Ext.gr ?_ _ | refine Ext.set ?_ (by simp) _ | (refine Ext.trans' ?_ (by assumption))))))) fun g10 hgr => ?_
        replace HLV := Lib.hid (HLV.out.ext hgr)
        replace HMV := Lib.hid (HMV.out.ext hgr)
        clear hgr
        go_wp2_with fail
        refine callW (W0 := Z1) (g := g10) (by exact (by repeat (first | exact Below.refl _ _ | refine Ext.al ?_ _ | refine Ext.dr ?_ | refine Ext.drN ?_ _ | refine Ext.gr ?_ _ | refine Ext.set ?_ (by simp) _ | (refine Ext.trans' ?_ (by assumption))))) (works_any _) fun g11 hgr => ?_
        replace HLV := Lib.hid (HLV.out.ext hgr)
        replace HMV := Lib.hid (HMV.out.ext hgr)
        clear hgr
        go_wp2_with fail
        go_ret
        exact ⟨rfl, HW.out.trans' (grow_below Z1 g11)⟩

      · have g := (agr_iff V.out).1 hag
        have q1 := spanE_agr V.out (a := A) (b := B) (by omega) (by omega)
        rw [hag] at q1
        replace q1 : spanE h A B = 0 := q1
        rw [q1, spanLo_agr V.out hag (by omega) (by omega), spanHi_agr V.out hag (by omega) (by omega)] at d1
        have q2 := spanE_agr VR (a := C) (b := D) (by omega) (by show (D : Int) < h.n; omega)
        rw [hagr.trans hag] at q2
        replace q2 : spanE (revH h) C D = 0 := q2
        rw [q2, spanLo_agr VR (hagr.trans hag) (by omega) (by show (D : Int) < h.n; omega), spanHi_agr VR (hagr.trans hag) (by omega) (by show (D : Int) < h.n; omega), ds_rev V.out g (by omega) (by omega), ds_rev V.out g (by omega) (by omega),
          show (h.n - ((D + 1 : Nat) : Int)).toNat = A by omega, show (h.n - (C : Int)).toNat = B + 1 by omega, ← hC, ← hD] at d2
        obtain ⟨lo, hlo⟩ : ∃ lo, lo = -ds h (B + 1) A := ⟨_, rfl⟩
        obtain ⟨hi, hhi⟩ : ∃ hi, hi = ds h A (B + 1) := ⟨_, rfl⟩
        rw [← hlo, ← hhi] at d1 d2
        have hl0 : ((l.length : Int) == 0) = true := by rw [hwn.2 hag]; rfl
        have D1 := Lib.hid d1
        have D2 := Lib.hid d2
        clear d1 d2 q1 q2 hwn hagr hag VR hC hD hCD hDn hlo hhi g

        go_wp2_with fail
        refine callW (W0 := Y0) (g := ⟨Y0, Below.refl _ _⟩) (by exact (by repeat (first | exact Below.refl _ _ | refine Ext.al ?_ _ | refine Ext.dr ?_ | refine Ext.drN ?_ _ | refine Ext.gr ?_ _ | refine Ext.set ?_ (by simp) _ | (refine Ext.trans' ?_ (by assumption))))) (D1.out _ (HS.out.ext (by exact (by repeat (first | exact Below.refl _ _ | refine Ext.al ?_ _ | refine Ext.dr ?_ | refine Ext.drN ?_ _ | refine Ext.gr ?_ _ | refine Ext.set ?_ (by simp) _ | (refine Ext.trans' ?_ (by assumption))))))) fun g12 hgr => ?_
        clear hgr
        go_upto_region 12 with (fail)
        obtain ⟨Z0, hZ0⟩ : ∃ zz9, zz9 = (grow Y0 g12).alloc (.cells #[.int .i64 lo, .int .i64 hi] 35) := ⟨_, rfl⟩
        have s0 : Z0.cell? ⟨(grow Y0 g12).heap.size, 0, none⟩ = some (.int .i64 lo) := by rw [hZ0]; simp [go_sem]
        have s1 : Z0.cell? ⟨(grow Y0 g12).heap.size, 1, none⟩ = some (.int .i64 hi) := by rw [hZ0]; simp [go_sem]
        have eZ0 : Ext Y0 Z0 := by rw [hZ0]; exact (by repeat (first | exact Below.refl _ _ | refine Ext.al ?_ _ | refine Ext.dr ?_ | refine Ext.drN ?_ _ | refine Ext.gr ?_ _ | refine Ext.set ?_ (by simp) _ | (refine Ext.trans' ?_ (by assumption))))
        replace k0 := cell_ext eZ0 k0
        replace k1 := cell_ext eZ0 k1
        replace k2 := cell_ext eZ0 k2
        replace x0 := cell_ext eZ0 x0
        replace x1 := cell_ext eZ0 x1
        replace x2' := cell_ext eZ0 x2'
        replace HS := Lib.hid (HS.out.ext eZ0)
        replace HX2 := Lib.hid (HX2.out.ext eZ0)
        replace HW := Lib.hid (HW.out.trans' eZ0)
        rw [← hZ0]
        obtain ⟨bS, hbS⟩ : ∃ b, b = (grow Y0 g12).heap.size := ⟨_, rfl⟩
        rw [← hbS] at s0 s1 ⊢
        replace hz := World.block_lt_of_cell? _ _ k0
        replace zx := World.block_lt_of_cell? _ _ x0
        have zbS := World.block_lt_of_cell? _ _ s0
        simp only at zbS
        clear hZ0 eZ0 hbS
        go_wp2_with fail
        refine callW (W0 := Z0) (g := ⟨Z0, Below.refl _ _⟩) (by exact (by repeat (first | exact Below.refl _ _ | refine Ext.al ?_ _ | refine Ext.dr ?_ | refine Ext.drN ?_ _ | refine Ext.gr ?_ _ | refine Ext.set ?_ (by simp) _ | (refine Ext.trans' ?_ (by assumption))))) (D2.out _ (HX2.out.ext (by exact (by repeat (first | exact Below.refl _ _ | refine Ext.al ?_ _ | refine Ext.dr ?_ | refine Ext.drN ?_ _ | refine Ext.gr ?_ _ | refine Ext.set ?_ (by simp) _ | (refine Ext.trans' ?_ (by assumption))))))) fun g13 hgr => ?_
        clear hgr
        go_upto_region 13 with (fail)
        obtain ⟨Z1, hZ1⟩ : ∃ zz9, zz9 = (grow Z0 g13).alloc (.cells #[.int .i64 lo, .int .i64 hi] 35) := ⟨_, rfl⟩
        have r0 : Z1.cell? ⟨(grow Z0 g13).heap.size, 0, none⟩ = some (.int .i64 lo) := by rw [hZ1]; simp [go_sem]
        have r1 : Z1.cell? ⟨(grow Z0 g13).heap.size, 1, none⟩ = some (.int .i64 hi) := by rw [hZ1]; simp [go_sem]
        have eZ1 : Ext Z0 Z1 := by rw [hZ1]; exact (by repeat (first | exact Below.refl _ _ | refine Ext.al ?_ _ | refine Ext.dr ?_ | refine Ext.drN ?_ _ | refine Ext.gr ?_ _ | refine Ext.set ?_ (by simp) _ | (refine Ext.trans' ?_ (by assumption))))
        replace k0 := cell_ext eZ1 k0
        replace k1 := cell_ext eZ1 k1
        replace k2 := cell_ext eZ1 k2
        replace x0 := cell_ext eZ1 x0
        replace x1 := cell_ext eZ1 x1
        replace x2' := cell_ext eZ1 x2'
        replace s0 := cell_ext eZ1 s0
        replace s1 := cell_ext eZ1 s1
        replace HS := Lib.hid (HS.out.ext eZ1)
        replace HX2 := Lib.hid (HX2.out.ext eZ1)
        replace HW := Lib.hid (HW.out.trans' eZ1)
        rw [← hZ1]
        obtain ⟨bR, hbR⟩ : ∃ b, b = (grow Z0 g13).heap.size := ⟨_, rfl⟩
        rw [← hbR] at r0 r1 ⊢
        replace hz := World.block_lt_of_cell? _ _ k0
        replace zx := World.block_lt_of_cell? _ _ x0
        replace zbS := World.block_lt_of_cell? _ _ s0
        have zbR := World.block_lt_of_cell? _ _ r0
        simp only at zbR
        clear hZ1 eZ1 hbR
        go_wp2_with fail
        refine callWR (W0 := Z1) (g := ⟨Z1, Below.refl _ _⟩) (by exact (by repeat (first | exact Below.refl _ _ | refine Ext.al ?_ _ | refine Ext.dr ?_ | refine Ext.drN ?_ _ | refine Ext.gr ?_ _ | refine Ext.set ?_ (by simp) _ | (refine Ext.trans' ?_ (by assumption))))) (C3.out _ (HS.out.ext (by exact (by repeat (first | exact Below.refl _ _ | refine Ext.al ?_ _ | refine Ext.dr ?_ | refine Ext.drN ?_ _ | refine Ext.gr ?_ _ | refine Ext.set ?_ (by simp) _ | (refine Ext.trans' ?_ (by assumption))))))) (fun _ _ ⟨_, _, r, _⟩ => r) fun _ g14 hgr hr => ?_
        obtain ⟨lv, rfl, -, hlv⟩ := hr
        clear hgr
        have HLV := Lib.hid hlv
        obtain ⟨la, lcap, rfl, -⟩ := hlv.spec
        clear hlv

        go_wp2_with fail
        refine callWR (W0 := Z1) (g := g14) (by exact (by repeat (first | exact Below.refl _ _ | refine Ext.al ?_ _ | refine Ext.dr ?_ | refine Ext.drN ?_ _ | refine Ext.gr ?_ _ | refine Ext.set ?_ (by simp) _ | (refine Ext.trans' ?_ (by assumption))))) (C4.out _ (HX2.out.ext (by exact (by repeat (first | exact Below.refl _ _ | refine Ext.al ?_ _ | refine Ext.dr ?_ | refine Ext.drN ?_ _ | refine Ext.gr ?_ _ | refine Ext.set ?_ (by simp) _ | (refine Ext.trans' ?_ (by assumption))))))) (fun _ _ ⟨_, _, r, _⟩ => r) fun _ g15 hgr hr => ?_
        obtain ⟨mv, rfl, -, hmv⟩ := hr
        replace HLV := Lib.hid (HLV.out.ext hgr)
        clear hgr
        have HMV := Lib.hid hmv
        obtain ⟨ma, mcap, rfl, -⟩ := hmv.spec
        clear hmv

        have ci := fun av bv w ha hb => ints_any l l av bv w ha hb
        rw [show decide (l = l) = true by simp] at ci
        have CI := Lib.hid ci
        clear ci
        go_wp2_with fail
        refine callW (W0 := Z1) (g := g15) (by exact (by repeat (first | exact Below.refl _ _ | refine Ext.al ?_ _ | refine Ext.dr ?_ | refine Ext.drN ?_ _ | refine Ext.gr ?_ _ | refine Ext.set ?_ (by simp) _ | (refine Ext.trans' ?_ (by assumption))))) (CI.out _ _ _ (HLV.out.ext (by exact (by repeat (first | exact Below.refl _ _ | refine Ext.al ?_ _ | refine Ext.dr ?_ | refine Ext.drN ?_ _ | refine Ext.gr ?_ _ | refine Ext.set ?_ (by simp) _ | (refine Ext.trans' ?_ (by assumption)))))) (HMV.out.ext (by exact (by repeat (first | exact Below.refl _ _ | refine Ext.al ?_ _ | refine Ext.dr ?_ | refine Ext.drN ?_ _ | refine Ext.gr ?_ _ | refine Ext.set ?_ (by simp) _ | (refine Ext.trans' ?_ (by assumption))))))) fun g16 hgr => ?_
        replace HLV := Lib.hid (HLV.out.ext hgr)
        replace HMV := Lib.hid (HMV.out.ext hgr)
        clear hgr
        go_upto_region 17 with (fail)
        by_cases hn0 : h.cs.length = 0
        · have hn1 : ((h.cs.length : Int) == 0) = true := by simp [hn0]
          clear hn0

          go_wp2_with fail
          refine callW (W0 := Z1) (g := g16) (by exact (by repeat (first | exact Below.refl _ _ | refine Ext.al ?_ _ | refine Ext.dr ?_ | refine Ext.drN ?_ _ | refine Ext.gr ?_ _ | refine Ext.set ?_ (by simp) _ | (refine Ext.trans' ?_ (by assumption))))) (works_any _) fun g17 hgr => ?_
          replace HLV := Lib.hid (HLV.out.ext hgr)
          replace HMV := Lib.hid (HMV.out.ext hgr)
          clear hgr
          go_wp2_with fail
          go_ret
          exact ⟨rfl, HW.out.trans' (grow_below Z1 g17)⟩

        have hn1 : ((h.cs.length : Int) == 0) = false := by simpa using hn0
        obtain ⟨K, hK, hKn⟩ := modN (n := (h.cs.length : Int)) g0 (by omega)
        go_upto_region 20 with (fail)
        simp only [hK]
        clear hK hn1 g0 g1'
        have c5 := fun w hs => kind_fin h (.slice sa h.cs.length cap) (K : Int) w hs
        have c6 := fun w hs => kind_fin (revH h) (.slice xa h.cs.length xcap) (K : Int) w hs
        have hke : kindErr h K = 0 := by unfold kindErr; rw [if_neg (fun hh => hh (chk_of_valid V.out)), if_neg (by omega)]
        rw [kindE_rev V.out, kind_rev V.out, hke] at c6
        rw [hke] at c5
        obtain ⟨kn, hkn⟩ : ∃ kn, kn = kindN h K := ⟨_, rfl⟩
        rw [← hkn] at c5 c6
        have C5 := Lib.hid c5
        have C6 := Lib.hid c6
        clear c5 c6 hke hkn
        go_wp2_with fail
        refine callW (W0 := Z1) (g := g16) (by exact (by repeat (first | exact Below.refl _ _ | refine Ext.al ?_ _ | refine Ext.dr ?_ | refine Ext.drN ?_ _ | refine Ext.gr ?_ _ | refine Ext.set ?_ (by simp) _ | (refine Ext.trans' ?_ (by assumption))))) (C5.out _ (HS.out.ext (by exact (by repeat (first | exact Below.refl _ _ | refine Ext.al ?_ _ | refine Ext.dr ?_ | refine Ext.drN ?_ _ | refine Ext.gr ?_ _ | refine Ext.set ?_ (by simp) _ | (refine Ext.trans' ?_ (by assumption))))))) fun g18 hgr => ?_
        replace HLV := Lib.hid (HLV.out.ext hgr)
        replace HMV := Lib.hid (HMV.out.ext hgr)
        clear hgr
        go_wp2_with fail
        refine callW (W0 := Z1) (g := g18) (by exact (by repeat (first | exact Below.refl _ _ | refine Ext.al ?_ _ | refine Ext.dr ?_ | refine Ext.drN ?_ _ | refine Ext.gr ?_ _ | refine Ext.set ?_ (by simp) _ | (refine Ext.trans' ?_ (by assumption))))) (C6.out _ (HX2.out.ext (by exact (by repeat (first | exact Below.refl _ _ | refine Ext.al ?_ _ | refine Ext.dr ?_ | refine Ext.drN ?_ _ | refine Ext.gr ?_ _ | refine Ext.set ?_ (by simp) _ | (refine Ext.trans' ?_ (by assumption))))))) fun g19 hgr => ?_
        replace HLV := Lib.hid (HLV.out.ext hgr)
        replace HMV := Lib.hid (HMV.out.ext hgr)
        clear hgr
        go_wp2_with fail
        refine callW (W0 := Z1) (g := g19) (by exact (by repeat (first | exact Below.refl _ _ | refine Ext.al ?_ _ | refine Ext.dr ?_ | refine Ext.drN ?_ _ | refine Ext.gr ?_ _ | refine Ext.set ?_ (by simp) _ | (refine Ext.trans' ?_ (by assumption))))) (works_any _) fun g20 hgr => ?_
        replace HLV := Lib.hid (HLV.out.ext hgr)
        replace HMV := Lib.hid (HMV.out.ext hgr)
        clear hgr
        go_wp2_with fail
        go_ret
        exact ⟨rfl, HW.out.trans' (grow_below Z1 g20)⟩

open Go.ChangeShapes Go.WideShapes Go.ChangeAt in
set_option maxRecDepth 100000 in
theorem cutTurned_lifted (os : Os) (started : os.Started) (H : Type) (enc : TypeId × Value → H) :
    ReturnsInHanded {} Try.checked os 14 .any (Rows.cutTurnedSpec.pre6 enc Try.prog Try.f14 Rows.cutTurnedRow.domain false) (Rows.cutTurnedSpec.post enc Try.prog Try.f14 false true false false) := by
  refine returnsInHanded_of_change (C := Try.checked) own started (by kernel_rfl) Try.func14
    (ChangeSpec.witness6 (enc := enc) (C := Try.checked) false ⟨#[], #[.agg #[.int .i64 0, .int .i64 0, .slice none 0 0], .int .u8 0, .int .u8 0, .int .u8 0], []⟩ 8 (by kernel_rfl) (by kernel_rfl) (by kernel_rfl) (by kernel_rfl)) ?_
  intro W base args ds gs before hval0 hW hcnd _
  have hval : ∀ (j : Nat) t v, Try.f14.params[j]? = some t → args[j]? = some v → Value.okWide Try.prog W .any base t v := hval0
  have hW' := hW
  obtain ⟨p, q, hA0, hV, rfl, hfz, hnd⟩ := hW
  have hA : DataW.TrodAll enc Try.prog W 0 (fun _ => true) true Try.f14.params.toList args.toList ds p := hA0
  rw [Try.params14] at hA hval
  obtain ⟨v0, vs0, d0, ds0, p0, q0, hargs, rfl, rfl, h0, r0⟩ := trodAll_cons hA
  obtain ⟨v1, vs1, d1, ds1, p1, q1, rfl, rfl, rfl, h1, r1⟩ := trodAll_cons r0
  obtain ⟨v2, vs2, d2, ds2, p2, q2, rfl, rfl, rfl, h2, r2⟩ := trodAll_cons r1
  obtain ⟨v3, vs3, d3, ds3, p3, q3, rfl, rfl, rfl, h3, r3⟩ := trodAll_cons r2
  obtain ⟨rfl, rfl, rfl⟩ := trodAll_nil r3
  obtain rfl : args = #[v0, v1, v2, v3] := by cases args; simp_all
  obtain ⟨hh, shh, rfl, hhh⟩ := openHall (hval 0 24 v0 rfl rfl) h0
  obtain ⟨a, rfl, rfl, rfl, wa⟩ := open_int Try.underlying5 (hval 1 5 v1 rfl rfl) h1
  obtain ⟨b, rfl, rfl, rfl, wb⟩ := open_int Try.underlying5 (hval 2 5 v2 rfl rfl) h2
  obtain ⟨c, rfl, rfl, rfl, wc⟩ := open_int Try.underlying5 (hval 3 5 v3 rfl rfl) h3
  clear hA0 hval0
  refine (cutTurned_any hh shh a b c W hhh wa wb wc).mono fun e W' ⟨he, hb⟩ => ?_
  subst he
  exact ⟨_, rfl, law_post laidOut (tb := 4) (hts_of (by kernel_rfl)) (by kernel_rfl) Try.underlying4 hW' rfl rfl hb⟩
theorem cutTurned_holds : Rows.CutTurnedSaid :=
  OpenClaim.holds_of_wide 14 Try.f14 rfl rfl rfl rfl rfl rfl rfl ⟨rfl, rfl, rfl, rfl, rfl⟩ rfl rfl rfl rfl rfl (by kernel_rfl) Try.func14 (by kernel_rfl)
    (of_decide_eq_true (by kernel_rfl)) (by unfold Func.isWrapper; first | (rw [if_pos (by decide +kernel)]; kernel_rfl) | (rw [if_neg (by decide +kernel)]; exact ⟨rfl, rfl⟩))
    (fun os started H enc _ => cutTurned_lifted os started H enc)
end Go.Proofs.Ytgcldgchhdjnhaa
