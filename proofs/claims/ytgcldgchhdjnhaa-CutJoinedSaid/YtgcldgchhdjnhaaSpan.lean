/-
  The walk of Span.
-/
import Derived.Test.YtgcldgchhdjnhaaOpen
import Derived.Test.YtgcldgchhdjnhaaPlain
namespace Go.Proofs.Ytgcldgchhdjnhaa
open Go.RowKit Go.Shelf

theorem ret_span {x y z x' y' z' : Int} (h1 : x = x') (h2 : y = y') (h3 : z = z') : Ending.returned (.tuple #[.agg #[.int .i64 x, .int .i64 y], .int .i64 z]) = .returned (.tuple #[.agg #[.int .i64 x', .int .i64 y'], .int .i64 z']) := by rw [h1, h2, h3]

set_option maxRecDepth 100000 in
set_option maxHeartbeats 2000000 in
theorem span_any (h : Hall) (sv : Value) (f t : Int) (w : World) (hs : IsCnts w sv h.cs) :
    Calls Try.prog 25 #[.agg #[.int .i64 h.n, .int .i64 h.most, sv], .int .i64 f, .int .i64 t] w fun e w' =>
      e = .returned (.tuple #[.agg #[.int .i64 (spanLo h f t), .int .i64 (spanHi h f t)], .int .i64 (spanE h f t)]) ∧ Ext w w' := by
  obtain ⟨sa, cap, rfl, hl1, hl2, -⟩ := hs.spec
  have HS := Lib.hid hs
  clear hs
  by_cases hc : chk h = 0
  rotate_left
  · go_enter Try.func25, Try.ntmps25
    go_wp2_with fail
    refine (open_bad h (.slice sa h.cs.length cap) (.slice none 0 0) [] _ (HS.out.ext (by repeat (first | exact Below.refl _ _ | refine Ext.al ?_ _ | refine Ext.dr ?_ | refine Ext.drN ?_ _ | refine Ext.gr ?_ _ | refine Ext.set ?_ (by simp) _ | (refine Ext.trans' ?_ (by assumption))))) (IsInts.nil _ _) (by rw [openE_nil]; exact hc)).mono ?_
    rintro e W1 ⟨rfl, hb1⟩
    rw [openE_nil]
    have r0 := cell_ext hb1 (a := ⟨w.heap.size + 1, 0, none⟩) (v := .int .i64 0) (by simp [go_sem])
    have r1 := cell_ext hb1 (a := ⟨w.heap.size + 1, 1, none⟩) (v := .int .i64 0) (by simp [go_sem])
    have rf0 : W1.frozen? ⟨w.heap.size + 1, 0, none⟩ = false := (hb1.frozen (p := ⟨w.heap.size + 1, 0, none⟩) (by simp)).trans (by simp [go_sem])
    have rf1 : W1.frozen? ⟨w.heap.size + 1, 1, none⟩ = false := (hb1.frozen (p := ⟨w.heap.size + 1, 1, none⟩) (by simp)).trans (by simp [go_sem])
    have HE1 := Lib.hid (Ext.trans' (by exact (by repeat (first | exact Below.refl _ _ | refine Ext.al ?_ _ | refine Ext.dr ?_ | refine Ext.drN ?_ _ | refine Ext.gr ?_ _ | refine Ext.set ?_ (by simp) _ | (refine Ext.trans' ?_ (by assumption))))) hb1 : Ext w W1)
    clear hb1
    have hc' : (chk h == 0) = false := by simpa using hc
    have he : spanE h f t = chk h := by simp [spanE, hc]
    have HX := Lib.hid he
    clear he
    go_wp2_with fail
    refine bodyPost_ret (v := .tuple #[.agg #[.int .i64 0, .int .i64 0], .int .i64 (chk h)]) (by simp [results, Try.results25, go_sem, r0, r1]) rfl ?_
    exact ⟨ret_span (by rw [spanLo, HX.out, if_neg hc]) (by rw [spanHi, HX.out, if_neg hc]) HX.out.symm, (HE1.out.setCell (by simp) _).setCell (by simp) _⟩
  have v := valid_of_chk hc
  have n1 := v.n1
  have n10 := v.n10
  have V := Lib.hid v
  clear v
  go_enter Try.func25, Try.ntmps25
  go_wp2_with fail
  refine (open_ok h (.slice sa h.cs.length cap) (.slice none 0 0) [] _ (HS.out.ext (by repeat (first | exact Below.refl _ _ | refine Ext.al ?_ _ | refine Ext.dr ?_ | refine Ext.drN ?_ _ | refine Ext.gr ?_ _ | refine Ext.set ?_ (by simp) _ | (refine Ext.trans' ?_ (by assumption))))) (IsInts.nil _ _) (by rw [openE_nil]; exact hc)).mono ?_
  rintro e W1 ⟨b, r, rfl, hb1, hsh⟩
  have k0 := cell_ext hb1 (a := ⟨w.heap.size, 0, none⟩) (v := .int .i64 h.n) (by simp [go_sem])
  have r0 := cell_ext hb1 (a := ⟨w.heap.size + 1, 0, none⟩) (v := .int .i64 0) (by simp [go_sem])
  have r1 := cell_ext hb1 (a := ⟨w.heap.size + 1, 1, none⟩) (v := .int .i64 0) (by simp [go_sem])
  have rf0 : W1.frozen? ⟨w.heap.size + 1, 0, none⟩ = false := (hb1.frozen (p := ⟨w.heap.size + 1, 0, none⟩) (by simp)).trans (by simp [go_sem])
  have rf1 : W1.frozen? ⟨w.heap.size + 1, 1, none⟩ = false := (hb1.frozen (p := ⟨w.heap.size + 1, 1, none⟩) (by simp)).trans (by simp [go_sem])
  have HE1 := Lib.hid (Ext.trans' (by exact (by repeat (first | exact Below.refl _ _ | refine Ext.al ?_ _ | refine Ext.dr ?_ | refine Ext.drN ?_ _ | refine Ext.gr ?_ _ | refine Ext.set ?_ (by simp) _ | (refine Ext.trans' ?_ (by assumption))))) hb1 : Ext w W1)
  have HSh := Lib.hid hsh
  have hz1 : w.heap.size + 1 < W1.heap.size := World.block_lt_of_cell? _ _ r0
  clear hb1 hsh
  by_cases hbad : f < 0 ∨ t < f ∨ h.n ≤ t
  · have he : spanE h f t = 2 := by simp only [spanE, hc, if_pos hbad]; simp
    have HX := Lib.hid he
    clear he
    have hd : (decide (f < 0) || (decide (t < f) || decide (h.n ≤ t))) = true := by simpa using hbad
    go_wp2
    all_goals
      refine bodyPost_ret (v := .tuple #[.agg #[.int .i64 0, .int .i64 0], .int .i64 2]) (by simp [results, Try.results25, go_sem, r0, r1]) rfl ?_
      exact ⟨ret_span (by rw [spanLo, HX.out]; rfl) (by rw [spanHi, HX.out]; rfl) HX.out.symm, (HE1.out.setCell (by simp) _).setCell (by simp) _⟩
  obtain ⟨F, rfl⟩ : ∃ F : Nat, f = F := ⟨f.toNat, by omega⟩
  obtain ⟨T, rfl⟩ : ∃ T : Nat, t = T := ⟨t.toNat, by omega⟩
  have hft : F ≤ T := by omega
  have hTn : (T : Int) < h.n := by omega
  have hd1 : decide ((F : Int) < 0) = false := by simp
  have hd2 : decide ((T : Int) < (F : Int)) = false := by simp; omega
  have hd3 : decide (h.n ≤ (T : Int)) = false := by simp; omega
  have HBAD := Lib.hid hbad
  clear hbad
  go_wp2_with fail
  refine (least_any h _ V.out F (by omega) b r _ HSh.out).mono ?_
  rintro e W2 ⟨rfl, hb2, hwy⟩
  replace r0 := cell_ext hb2 r0
  replace r1 := cell_ext hb2 r1
  replace rf0 : W2.frozen? ⟨w.heap.size + 1, 0, none⟩ = false := (hb2.frozen (p := ⟨w.heap.size + 1, 0, none⟩) hz1).trans rf0
  replace rf1 : W2.frozen? ⟨w.heap.size + 1, 1, none⟩ = false := (hb2.frozen (p := ⟨w.heap.size + 1, 1, none⟩) hz1).trans rf1
  have hz2 : w.heap.size + 1 < W2.heap.size := World.block_lt_of_cell? _ _ r0
  have HE2 := Lib.hid (HE1.out.trans' hb2)
  have HSh2 := Lib.hid (HSh.out.ext hb2)
  have HW := Lib.hid hwy
  clear hb2 hwy hd1 hd2 hd3 k0
  cases hok : (leastM h F).2
  · have he : spanE h F T = 5 := by simp only [spanE, hc, if_neg HBAD.out, Int.toNat_natCast, hok]; simp
    have HX := Lib.hid he
    clear he
    go_wp2_with fail
    refine bodyPost_ret (v := .tuple #[.agg #[.int .i64 0, .int .i64 0], .int .i64 5]) (by simp [results, Try.results25, go_sem, r0, r1]) rfl ?_
    exact ⟨ret_span (by rw [spanLo, HX.out]; rfl) (by rw [spanHi, HX.out]; rfl) HX.out.symm, (HE2.out.setCell (by simp) _).setCell (by simp) _⟩
  have he : spanE h F T = 0 := by simp only [spanE, hc, if_neg HBAD.out, Int.toNat_natCast, hok]; simp
  have HX := Lib.hid he
  clear he hok
  have hw1 : IntKind.i64.wrap ((T : Int) + 1) = (T : Int) + 1 := IntWalk.i64_in _ (by omega)
  go_wp2_with fail
  refine (least_any h _ V.out (T + 1) (by omega) b r _ HSh2.out).mono ?_
  rintro e W3 ⟨rfl, hb3, hwy3⟩
  replace r0 := cell_ext hb3 r0
  replace r1 := cell_ext hb3 r1
  replace rf0 : W3.frozen? ⟨w.heap.size + 1, 0, none⟩ = false := (hb3.frozen (p := ⟨w.heap.size + 1, 0, none⟩) hz2).trans rf0
  replace rf1 : W3.frozen? ⟨w.heap.size + 1, 1, none⟩ = false := (hb3.frozen (p := ⟨w.heap.size + 1, 1, none⟩) hz2).trans rf1
  have HE3 := Lib.hid (HE2.out.trans' hb3)
  have s1 := (HW.out.ext hb3).sum (i := T + 1) (by omega)
  have s2 := hwy3.sum (i := F) (by omega)
  have z1 : W1.heap.size < W3.heap.size := World.block_lt_of_cell? _ _ s1
  have z2 : W2.heap.size < W3.heap.size := World.block_lt_of_cell? _ _ s2
  have z0 : w.heap.size + 1 < W3.heap.size := World.block_lt_of_cell? _ _ r0
  obtain ⟨x, hx⟩ : ∃ x, x = (leastM h F).1.sums (T + 1) := ⟨_, rfl⟩
  obtain ⟨y, hy⟩ : ∃ y, y = (leastM h (T + 1)).1.sums F := ⟨_, rfl⟩
  have hyb := hy ▸ leastM_bd V.out (T + 1) F
  rw [← hx] at s1
  rw [← hy] at s2
  have HXX := Lib.hid hx
  have HYY := Lib.hid hy
  have hw2 : ((T : Int) + 1).toNat = T + 1 := by omega
  have hw3 : (0 : Int) ≤ (T : Int) + 1 := by omega
  have hw4 : (T : Int) + 1 < 11 := by omega
  have hw5 : (F : Int) < 11 := by omega
  have hw6 : IntKind.i64.wrap (-y) = -y := IntWalk.i64_in _ (by omega)
  clear hb3 hwy3 hx hy hyb
  go_wp2_with fail
  go_region
  all_goals
    go_wp2_with fail
    refine bodyPost_ret (v := .tuple #[.agg #[.int .i64 (-y), .int .i64 x], .int .i64 0]) (by simp [results, Try.results25, go_sem, r0, r1]) rfl ?_
    refine ⟨ret_span (by rw [spanLo, HX.out, if_pos rfl, HYY.out]; simp) (by rw [spanHi, HX.out, if_pos rfl, HXX.out]; simp) HX.out.symm, (Below.setCell (Below.setCell (Below.drew HE3.out) (by simp) _) (by simp) _)⟩
end Go.Proofs.Ytgcldgchhdjnhaa
