/-
  The walk of Span.
  The walks of the reference's Agree, TruthError, WayError, Span and Uses.
  The walk of the reference's Span.
-/
import Derived.Test.YtgcldgchhdjnhaaOpen
import Derived.Test.YtgcldgchhdjnhaaPlain
import Derived.Test.YtgcldgchhdjnhaaLeastR
namespace Go.Proofs.Ytgcldgchhdjnhaa
open Go.RowKit Go.Shelf

theorem ret_span {x y z x' y' z' : Int} (h1 : x = x') (h2 : y = y') (h3 : z = z') : Ending.returned (.tuple #[.agg #[.int .i64 x, .int .i64 y], .int .i64 z]) = .returned (.tuple #[.agg #[.int .i64 x', .int .i64 y'], .int .i64 z']) := by rw [h1, h2, h3]

set_option maxRecDepth 100000 in
set_option maxHeartbeats 2000000 in
theorem span_any (h : Hall) (sv : Value) (f t : Int) (w : World) (hs : IsCnts w sv h.cs) :
    Calls Try.prog 25 #[.agg #[.int .i64 h.n, .int .i64 h.most, sv], .int .i64 f, .int .i64 t] w fun e w' =>
      e = .returned (.tuple #[.agg #[.int .i64 (spanLo h f t), .int .i64 (spanHi h f t)], .int .i64 (spanE h f t)]) ∧ Ext w w' := by
  obtain ⟨sa, cap, rfl, hl1, hl2, -⟩ := hs.spec
  have HS := Lib.hid hs
  clear hs
  by_cases hc : chk h = 0
  rotate_left
  · go_enter Try.func25, Try.ntmps25
    go_wp2_with fail
    refine (open_bad h (.slice sa h.cs.length cap) (.slice none 0 0) [] _ (HS.out.ext (by repeat (first | exact Below.refl _ _ | refine Ext.al ?_ _ | refine Ext.dr ?_ | refine Ext.drN ?_ _ | refine Ext.gr ?_ _ | refine Ext.set ?_ (by simp) _ | (refine Ext.trans' ?_ (by assumption))))) (IsInts.nil _ _) (by rw [openE_nil]; exact hc)).mono ?_
    rintro e W1 ⟨rfl, hb1⟩
    rw [openE_nil]
    have r0 := cell_ext hb1 (a := ⟨w.heap.size + 1, 0, none⟩) (v := .int .i64 0) (by simp [go_sem])
    have r1 := cell_ext hb1 (a := ⟨w.heap.size + 1, 1, none⟩) (v := .int .i64 0) (by simp [go_sem])
    have rf0 : W1.frozen? ⟨w.heap.size + 1, 0, none⟩ = false := (hb1.frozen (p := ⟨w.heap.size + 1, 0, none⟩) (by simp)).trans (by simp [go_sem])
    have rf1 : W1.frozen? ⟨w.heap.size + 1, 1, none⟩ = false := (hb1.frozen (p := ⟨w.heap.size + 1, 1, none⟩) (by simp)).trans (by simp [go_sem])
    have HE1 := Lib.hid (Ext.trans' (by exact (by repeat (first | exact Below.refl _ _ | refine Ext.al ?_ _ | refine Ext.dr ?_ | refine Ext.drN ?_ _ | refine Ext.gr ?_ _ | refine Ext.set ?_ (by simp) _ | (refine Ext.trans' ?_ (by assumption))))) hb1 : Ext w W1)
    clear hb1
    have hc' : (chk h == 0) = false := by simpa using hc
    have he : spanE h f t = chk h := by simp [spanE, hc]
    have HX := Lib.hid he
    clear he
    go_wp2_with fail
    refine bodyPost_ret (v := .tuple #[.agg #[.int .i64 0, .int .i64 0], .int .i64 (chk h)]) (by simp [results, Try.results25, go_sem, r0, r1]) rfl ?_
    exact ⟨ret_span (by rw [spanLo, HX.out, if_neg hc]) (by rw [spanHi, HX.out, if_neg hc]) HX.out.symm, (HE1.out.setCell (by simp) _).setCell (by simp) _⟩
  have v := valid_of_chk hc
  have n1 := v.n1
  have n10 := v.n10
  have V := Lib.hid v
  clear v
  go_enter Try.func25, Try.ntmps25
  go_wp2_with fail
  refine (open_ok h (.slice sa h.cs.length cap) (.slice none 0 0) [] _ (HS.out.ext (by repeat (first | exact Below.refl _ _ | refine Ext.al ?_ _ | refine Ext.dr ?_ | refine Ext.drN ?_ _ | refine Ext.gr ?_ _ | refine Ext.set ?_ (by simp) _ | (refine Ext.trans' ?_ (by assumption))))) (IsInts.nil _ _) (by rw [openE_nil]; exact hc)).mono ?_
  rintro e W1 ⟨b, r, rfl, hb1, hsh⟩
  have k0 := cell_ext hb1 (a := ⟨w.heap.size, 0, none⟩) (v := .int .i64 h.n) (by simp [go_sem])
  have r0 := cell_ext hb1 (a := ⟨w.heap.size + 1, 0, none⟩) (v := .int .i64 0) (by simp [go_sem])
  have r1 := cell_ext hb1 (a := ⟨w.heap.size + 1, 1, none⟩) (v := .int .i64 0) (by simp [go_sem])
  have rf0 : W1.frozen? ⟨w.heap.size + 1, 0, none⟩ = false := (hb1.frozen (p := ⟨w.heap.size + 1, 0, none⟩) (by simp)).trans (by simp [go_sem])
  have rf1 : W1.frozen? ⟨w.heap.size + 1, 1, none⟩ = false := (hb1.frozen (p := ⟨w.heap.size + 1, 1, none⟩) (by simp)).trans (by simp [go_sem])
  have HE1 := Lib.hid (Ext.trans' (by exact (by repeat (first | exact Below.refl _ _ | refine Ext.al ?_ _ | refine Ext.dr ?_ | refine Ext.drN ?_ _ | refine Ext.gr ?_ _ | refine Ext.set ?_ (by simp) _ | (refine Ext.trans' ?_ (by assumption))))) hb1 : Ext w W1)
  have HSh := Lib.hid hsh
  have hz1 : w.heap.size + 1 < W1.heap.size := World.block_lt_of_cell? _ _ r0
  clear hb1 hsh
  by_cases hbad : f < 0 ∨ t < f ∨ h.n ≤ t
  · have he : spanE h f t = 2 := by simp only [spanE, hc, if_pos hbad]; simp
    have HX := Lib.hid he
    clear he
    have hd : (decide (f < 0) || (decide (t < f) || decide (h.n ≤ t))) = true := by simpa using hbad
    go_wp2
    all_goals
      refine bodyPost_ret (v := .tuple #[.agg #[.int .i64 0, .int .i64 0], .int .i64 2]) (by simp [results, Try.results25, go_sem, r0, r1]) rfl ?_
      exact ⟨ret_span (by rw [spanLo, HX.out]; rfl) (by rw [spanHi, HX.out]; rfl) HX.out.symm, (HE1.out.setCell (by simp) _).setCell (by simp) _⟩
  obtain ⟨F, rfl⟩ : ∃ F : Nat, f = F := ⟨f.toNat, by omega⟩
  obtain ⟨T, rfl⟩ : ∃ T : Nat, t = T := ⟨t.toNat, by omega⟩
  have hft : F ≤ T := by omega
  have hTn : (T : Int) < h.n := by omega
  have hd1 : decide ((F : Int) < 0) = false := by simp
  have hd2 : decide ((T : Int) < (F : Int)) = false := by simp; omega
  have hd3 : decide (h.n ≤ (T : Int)) = false := by simp; omega
  have HBAD := Lib.hid hbad
  clear hbad
  go_wp2_with fail
  refine (least_any h _ V.out F (by omega) b r _ HSh.out).mono ?_
  rintro e W2 ⟨rfl, hb2, hwy⟩
  replace r0 := cell_ext hb2 r0
  replace r1 := cell_ext hb2 r1
  replace rf0 : W2.frozen? ⟨w.heap.size + 1, 0, none⟩ = false := (hb2.frozen (p := ⟨w.heap.size + 1, 0, none⟩) hz1).trans rf0
  replace rf1 : W2.frozen? ⟨w.heap.size + 1, 1, none⟩ = false := (hb2.frozen (p := ⟨w.heap.size + 1, 1, none⟩) hz1).trans rf1
  have hz2 : w.heap.size + 1 < W2.heap.size := World.block_lt_of_cell? _ _ r0
  have HE2 := Lib.hid (HE1.out.trans' hb2)
  have HSh2 := Lib.hid (HSh.out.ext hb2)
  have HW := Lib.hid hwy
  clear hb2 hwy hd1 hd2 hd3 k0
  cases hok : (leastM h F).2
  · have he : spanE h F T = 5 := by simp only [spanE, hc, if_neg HBAD.out, Int.toNat_natCast, hok]; simp
    have HX := Lib.hid he
    clear he
    go_wp2_with fail
    refine bodyPost_ret (v := .tuple #[.agg #[.int .i64 0, .int .i64 0], .int .i64 5]) (by simp [results, Try.results25, go_sem, r0, r1]) rfl ?_
    exact ⟨ret_span (by rw [spanLo, HX.out]; rfl) (by rw [spanHi, HX.out]; rfl) HX.out.symm, (HE2.out.setCell (by simp) _).setCell (by simp) _⟩
  have he : spanE h F T = 0 := by simp only [spanE, hc, if_neg HBAD.out, Int.toNat_natCast, hok]; simp
  have HX := Lib.hid he
  clear he hok
  have hw1 : IntKind.i64.wrap ((T : Int) + 1) = (T : Int) + 1 := IntWalk.i64_in _ (by omega)
  go_wp2_with fail
  refine (least_any h _ V.out (T + 1) (by omega) b r _ HSh2.out).mono ?_
  rintro e W3 ⟨rfl, hb3, hwy3⟩
  replace r0 := cell_ext hb3 r0
  replace r1 := cell_ext hb3 r1
  replace rf0 : W3.frozen? ⟨w.heap.size + 1, 0, none⟩ = false := (hb3.frozen (p := ⟨w.heap.size + 1, 0, none⟩) hz2).trans rf0
  replace rf1 : W3.frozen? ⟨w.heap.size + 1, 1, none⟩ = false := (hb3.frozen (p := ⟨w.heap.size + 1, 1, none⟩) hz2).trans rf1
  have HE3 := Lib.hid (HE2.out.trans' hb3)
  have s1 := (HW.out.ext hb3).sum (i := T + 1) (by omega)
  have s2 := hwy3.sum (i := F) (by omega)
  have z1 : W1.heap.size < W3.heap.size := World.block_lt_of_cell? _ _ s1
  have z2 : W2.heap.size < W3.heap.size := World.block_lt_of_cell? _ _ s2
  have z0 : w.heap.size + 1 < W3.heap.size := World.block_lt_of_cell? _ _ r0
  obtain ⟨x, hx⟩ : ∃ x, x = (leastM h F).1.sums (T + 1) := ⟨_, rfl⟩
  obtain ⟨y, hy⟩ : ∃ y, y = (leastM h (T + 1)).1.sums F := ⟨_, rfl⟩
  have hyb := hy ▸ leastM_bd V.out (T + 1) F
  rw [← hx] at s1
  rw [← hy] at s2
  have HXX := Lib.hid hx
  have HYY := Lib.hid hy
  have hw2 : ((T : Int) + 1).toNat = T + 1 := by omega
  have hw3 : (0 : Int) ≤ (T : Int) + 1 := by omega
  have hw4 : (T : Int) + 1 < 11 := by omega
  have hw5 : (F : Int) < 11 := by omega
  have hw6 : IntKind.i64.wrap (-y) = -y := IntWalk.i64_in _ (by omega)
  clear hb3 hwy3 hx hy hyb
  go_wp2_with fail
  go_region
  all_goals
    go_wp2_with fail
    refine bodyPost_ret (v := .tuple #[.agg #[.int .i64 (-y), .int .i64 x], .int .i64 0]) (by simp [results, Try.results25, go_sem, r0, r1]) rfl ?_
    refine ⟨ret_span (by rw [spanLo, HX.out, if_pos rfl, HYY.out]; simp) (by rw [spanHi, HX.out, if_pos rfl, HXX.out]; simp) HX.out.symm, (Below.setCell (Below.setCell (Below.drew HE3.out) (by simp) _) (by simp) _)⟩
end Go.Proofs.Ytgcldgchhdjnhaa
namespace Go.Proofs.Ytgcldgchhdjnhaa
open Go.RowKit Go.Shelf

set_option maxHeartbeats 1000000 in
theorem agreeR_any (h : Hall) (sv : Value) (v : Valid h) (w : World) (hs : IsCnts w sv h.cs) :
    Calls Try.prog 37 #[.agg #[.int .i64 h.n, .int .i64 h.most, sv]] w fun e w' => e = .returned (.bool (leastR h 0).2) ∧ Ext w w' := by
  obtain ⟨ca, ccap, rfl, hm1, hm2, -⟩ := hs.spec
  have HS := Lib.hid hs
  have V := Lib.hid v
  have n1 := v.n1
  clear hs v
  go_enter Try.func37, Try.ntmps37
  go_wp2_with fail
  refine (leastR_any h (.slice ca h.cs.length ccap) V.out 0 (by omega) _ (HS.out.ext (by repeat (first | exact Below.refl _ _ | refine Ext.al ?_ _ | refine Ext.dr ?_ | refine Ext.drN ?_ _ | refine Ext.gr ?_ _ | refine Ext.set ?_ (by simp) _ | (refine Ext.trans' ?_ (by assumption)))))).mono ?_
  rintro e W1 ⟨lv, rfl, hb1, _⟩
  have HE1 := Lib.hid (Ext.trans' (by exact (by repeat (first | exact Below.refl _ _ | refine Ext.al ?_ _ | refine Ext.dr ?_ | refine Ext.drN ?_ _ | refine Ext.gr ?_ _ | refine Ext.set ?_ (by simp) _ | (refine Ext.trans' ?_ (by assumption))))) hb1 : Ext w W1)
  clear hb1
  go_wp2_with fail
  go_ret
  exact ⟨rfl, HE1.out⟩

set_option maxHeartbeats 1000000 in
theorem truthError_any (h : Hall) (sv : Value) (w : World) (hs : IsCnts w sv h.cs) :
    Calls Try.prog 24 #[.agg #[.int .i64 h.n, .int .i64 h.most, sv]] w fun e w' => e = .returned (.int .i64 (truthErrR h)) ∧ Ext w w' := by
  obtain ⟨ca, ccap, rfl, hm1, hm2, -⟩ := hs.spec
  have HS := Lib.hid hs
  clear hs
  go_enter Try.func24, Try.ntmps24
  go_wp2_with fail
  refine (checkHallR_any h (.slice ca h.cs.length ccap) _ (HS.out.ext (by repeat (first | exact Below.refl _ _ | refine Ext.al ?_ _ | refine Ext.dr ?_ | refine Ext.drN ?_ _ | refine Ext.gr ?_ _ | refine Ext.set ?_ (by simp) _ | (refine Ext.trans' ?_ (by assumption)))))).mono ?_
  rintro e W1 ⟨rfl, hb1⟩
  have k0 := cell_ext hb1 (a := ⟨w.heap.size, 0, none⟩) (v := .int .i64 h.n) (by simp [go_sem])
  have k1 := cell_ext hb1 (a := ⟨w.heap.size, 1, none⟩) (v := .int .i64 h.most) (by simp [go_sem])
  have k2 := cell_ext hb1 (a := ⟨w.heap.size, 2, none⟩) (v := .slice ca h.cs.length ccap) (by simp [go_sem])
  have HE1 := Lib.hid (Ext.trans' (by exact (by repeat (first | exact Below.refl _ _ | refine Ext.al ?_ _ | refine Ext.dr ?_ | refine Ext.drN ?_ _ | refine Ext.gr ?_ _ | refine Ext.set ?_ (by simp) _ | (refine Ext.trans' ?_ (by assumption))))) hb1 : Ext w W1)
  clear hb1
  by_cases hc : chk h = 0
  · have hc' : (chk h == 0) = true := by simpa using hc
    have V := Lib.hid (valid_of_chk hc)
    have HC := Lib.hid hc
    clear hc
    go_wp2_with fail
    refine (agreeR_any h (.slice ca h.cs.length ccap) V.out _ (HS.out.ext HE1.out)).mono ?_
    rintro e W2 ⟨rfl, hb2⟩
    cases hok : (leastR h 0).2
    · go_wp2_with fail
      go_ret
      exact ⟨ret_int (by simp [truthErrR, HC.out, hok]), HE1.out.trans' hb2⟩
    · go_wp2_with fail
      go_ret
      exact ⟨ret_int (by simp [truthErrR, HC.out, hok]), HE1.out.trans' hb2⟩
  · have hc' : (chk h == 0) = false := by simpa using hc
    go_wp2_with fail
    refine (checkHallR_any h (.slice ca h.cs.length ccap) _ (HS.out.ext HE1.out)).mono ?_
    rintro e W2 ⟨rfl, hb2⟩
    go_wp2_with fail
    go_ret
    exact ⟨ret_int (by simp [truthErrR, hc]), HE1.out.trans' hb2⟩

set_option maxHeartbeats 1000000 in
theorem wayError_any (h : Hall) (sv : Value) (f t : Int) (w : World) (hs : IsCnts w sv h.cs) :
    Calls Try.prog 31 #[.agg #[.int .i64 h.n, .int .i64 h.most, sv], .int .i64 f, .int .i64 t] w fun e w' => e = .returned (.int .i64 (wayErrR h f t)) ∧ Ext w w' := by
  obtain ⟨ca, ccap, rfl, hm1, hm2, -⟩ := hs.spec
  have HS := Lib.hid hs
  clear hs
  go_enter Try.func31, Try.ntmps31
  go_wp2_with fail
  refine (places_any h (.slice ca h.cs.length ccap) f t _ (HS.out.ext (by repeat (first | exact Below.refl _ _ | refine Ext.al ?_ _ | refine Ext.dr ?_ | refine Ext.drN ?_ _ | refine Ext.gr ?_ _ | refine Ext.set ?_ (by simp) _ | (refine Ext.trans' ?_ (by assumption)))))).mono ?_
  rintro e W1 ⟨rfl, hb1⟩
  have k0 := cell_ext hb1 (a := ⟨w.heap.size, 0, none⟩) (v := .int .i64 h.n) (by simp [go_sem])
  have k1 := cell_ext hb1 (a := ⟨w.heap.size, 1, none⟩) (v := .int .i64 h.most) (by simp [go_sem])
  have k2 := cell_ext hb1 (a := ⟨w.heap.size, 2, none⟩) (v := .slice ca h.cs.length ccap) (by simp [go_sem])
  have HE1 := Lib.hid (Ext.trans' (by exact (by repeat (first | exact Below.refl _ _ | refine Ext.al ?_ _ | refine Ext.dr ?_ | refine Ext.drN ?_ _ | refine Ext.gr ?_ _ | refine Ext.set ?_ (by simp) _ | (refine Ext.trans' ?_ (by assumption))))) hb1 : Ext w W1)
  clear hb1
  by_cases ho : openE h [f, t] = 0
  · have ho' : (openE h [f, t] == 0) = true := by simpa using ho
    have HO := Lib.hid ho
    clear ho
    go_wp2_with fail
    refine (truthError_any h (.slice ca h.cs.length ccap) _ (HS.out.ext HE1.out)).mono ?_
    rintro e W2 ⟨rfl, hb2⟩
    go_wp2_with fail
    go_ret
    exact ⟨ret_int (by simp [wayErrR, HO.out]), HE1.out.trans' hb2⟩
  · have ho' : (openE h [f, t] == 0) = false := by simpa using ho
    go_wp2_with fail
    refine (places_any h (.slice ca h.cs.length ccap) f t _ (HS.out.ext HE1.out)).mono ?_
    rintro e W2 ⟨rfl, hb2⟩
    go_wp2_with fail
    go_ret
    exact ⟨ret_int (by simp [wayErrR, ho]), HE1.out.trans' hb2⟩

set_option maxHeartbeats 1000000 in
theorem uses_any (l : List Stp) (lv : Value) (c : Int) (w : World) (hv : IsStps w lv l) :
    Calls Try.prog 85 #[lv, .int .i64 c] w fun e w' => e = .returned (.bool (usesM l c)) ∧ Ext w w' := by
  obtain ⟨sa, cap, rfl, hl1, hl2, -⟩ := hv.spec
  have HV := Lib.hid hv
  clear hv
  go_enter Try.func85, Try.ntmps85
  go_wp2_with fail
  go_loopw [5] (fun i W => ∃ k : Nat, k ≤ l.length ∧ i = .int .i64 k ∧ (∀ x ∈ l.take k, (!x.win && (x.idx == c)) = false) ∧ Ext w W) (fun i _ => l.length - (intOf i).toNat)
  case atStart => exact ⟨0, Nat.zero_le _, rfl, by simp, Below.refl _ _⟩
  case round =>
    obtain ⟨k, hk, rfl, hno, hb⟩ := hrel
    have HN := Lib.hid hno
    have HB := Lib.hid hb
    clear hno
    by_cases hlt : k < l.length
    · rcases (HV.out.ext hb).opened with e | ⟨cb, off, rfl, hc⟩
      · simp [e] at hlt
      obtain ⟨c0, c1, c2⟩ := hc k hlt
      have hx : ∃ x, x = l[k] := ⟨_, rfl⟩
      obtain ⟨x, hx⟩ := hx
      have HX := Lib.hid hx
      rw [← hx] at c0 c1 c2
      clear hc hb hx c2
      obtain ⟨xw, xi, xb⟩ := x
      cases xw
      · by_cases hi : xi = c
        · have hi' : (xi == c) = true := by simpa using hi
          go_wp2_with fail
          go_ret
          exact ⟨ret_bool (any_of_at hlt (by rw [← HX.out]; simp [hi])).symm, HB.out⟩
        · have hi' : (xi == c) = false := by simpa using hi
          go_wp2_with fail
          go_roundw
          case rel => exact ⟨k + 1, by omega, by go_num, take_ext hlt HN.out (by rw [← HX.out]; simp [hi]), HB.out⟩
          case measure => simp [intOf]; omega
      · go_wp2_with fail
        go_roundw
        case rel => exact ⟨k + 1, by omega, by go_num, take_ext hlt HN.out (by rw [← HX.out]; simp), HB.out⟩
        case measure => simp [intOf]; omega
    · go_wp2_with fail
      go_ret
      exact ⟨ret_bool (by unfold usesM; rw [any_of_none (take_all hlt HN.out)]), HB.out⟩
end Go.Proofs.Ytgcldgchhdjnhaa
namespace Go.Proofs.Ytgcldgchhdjnhaa
open Go.RowKit Go.Shelf

theorem IsInts.opened {w : World} {k : IntKind} {sa : Option Addr} {n cap : Nat} {l : List Int} (h : IsInts w k (.slice sa n cap) l) (hl : 0 < l.length) :
    n = l.length ∧ ∃ b off, sa = some ⟨b, off, none⟩ ∧ ∀ i, (h : i < l.length) → w.cell? ⟨b, off + i, none⟩ = some (.int k l[i]) := by
  obtain ⟨sa', cap', e, _, _, h3⟩ := h.spec
  cases e
  rcases h3 with h3 | h3
  · subst h3; simp at hl
  · exact ⟨rfl, h3⟩

set_option maxRecDepth 100000 in
set_option maxHeartbeats 2000000 in
theorem spanR_any (h : Hall) (sv : Value) (f t : Int) (w : World) (hs : IsCnts w sv h.cs) :
    Calls Try.prog 26 #[.agg #[.int .i64 h.n, .int .i64 h.most, sv], .int .i64 f, .int .i64 t] w fun e w' =>
      e = .returned (.tuple #[.agg #[.int .i64 (spanLoR h f t), .int .i64 (spanHiR h f t)], .int .i64 (spanER h f t)]) ∧ Ext w w' := by
  obtain ⟨sa, cap, rfl, hl1, hl2, -⟩ := hs.spec
  have HS := Lib.hid hs
  clear hs
  go_enter Try.func26, Try.ntmps26
  go_wp2_with fail
  refine (checkHallR_any h (.slice sa h.cs.length cap) _ (HS.out.ext (by repeat (first | exact Below.refl _ _ | refine Ext.al ?_ _ | refine Ext.dr ?_ | refine Ext.drN ?_ _ | refine Ext.gr ?_ _ | refine Ext.set ?_ (by simp) _ | (refine Ext.trans' ?_ (by assumption)))))).mono ?_
  rintro e W1 ⟨rfl, hb1⟩
  have k0 := cell_ext hb1 (a := ⟨w.heap.size, 0, none⟩) (v := .int .i64 h.n) (by simp [go_sem])
  have k1 := cell_ext hb1 (a := ⟨w.heap.size, 1, none⟩) (v := .int .i64 h.most) (by simp [go_sem])
  have k2 := cell_ext hb1 (a := ⟨w.heap.size, 2, none⟩) (v := .slice sa h.cs.length cap) (by simp [go_sem])
  have r0 := cell_ext hb1 (a := ⟨w.heap.size + 1, 0, none⟩) (v := .int .i64 0) (by simp [go_sem])
  have r1 := cell_ext hb1 (a := ⟨w.heap.size + 1, 1, none⟩) (v := .int .i64 0) (by simp [go_sem])
  have rf0 : W1.frozen? ⟨w.heap.size + 1, 0, none⟩ = false := (hb1.frozen (p := ⟨w.heap.size + 1, 0, none⟩) (by simp)).trans (by simp [go_sem])
  have rf1 : W1.frozen? ⟨w.heap.size + 1, 1, none⟩ = false := (hb1.frozen (p := ⟨w.heap.size + 1, 1, none⟩) (by simp)).trans (by simp [go_sem])
  have HE1 := Lib.hid (Ext.trans' (by exact (by repeat (first | exact Below.refl _ _ | refine Ext.al ?_ _ | refine Ext.dr ?_ | refine Ext.drN ?_ _ | refine Ext.gr ?_ _ | refine Ext.set ?_ (by simp) _ | (refine Ext.trans' ?_ (by assumption))))) hb1 : Ext w W1)
  have hz1 : w.heap.size + 1 < W1.heap.size := World.block_lt_of_cell? _ _ r0
  clear hb1
  by_cases hc : chk h = 0
  rotate_left
  · have hc' : (chk h == 0) = false := by simpa using hc
    go_wp2_with fail
    refine (checkHallR_any h (.slice sa h.cs.length cap) _ (HS.out.ext HE1.out)).mono ?_
    rintro e W2 ⟨rfl, hb2⟩
    replace r0 := cell_ext hb2 r0
    replace r1 := cell_ext hb2 r1
    replace rf0 : W2.frozen? ⟨w.heap.size + 1, 0, none⟩ = false := (hb2.frozen (p := ⟨w.heap.size + 1, 0, none⟩) hz1).trans rf0
    replace rf1 : W2.frozen? ⟨w.heap.size + 1, 1, none⟩ = false := (hb2.frozen (p := ⟨w.heap.size + 1, 1, none⟩) hz1).trans rf1
    have HE2 := Lib.hid (HE1.out.trans' hb2)
    have he : spanER h f t = chk h := by simp [spanER, hc]
    have HX := Lib.hid he
    clear he hb2
    go_wp2_with fail
    refine bodyPost_ret (v := .tuple #[.agg #[.int .i64 0, .int .i64 0], .int .i64 (chk h)]) (by simp [results, Try.results26, go_sem, r0, r1, rf0, rf1]) rfl ?_
    exact ⟨ret_span (by rw [spanLoR, HX.out, if_neg hc]) (by rw [spanHiR, HX.out, if_neg hc]) HX.out.symm, (HE2.out.setCell (by simp) _).setCell (by simp) _⟩
  have hc' : (chk h == 0) = true := by simpa using hc
  have v := valid_of_chk hc
  have n1 := v.n1
  have n10 := v.n10
  have V := Lib.hid v
  clear v
  by_cases hbad : f < 0 ∨ t < f ∨ h.n ≤ t
  · have he : spanER h f t = 2 := by simp only [spanER, hc, if_pos hbad]; simp
    have HX := Lib.hid he
    clear he
    have hd : (decide (f < 0) || (decide (t < f) || decide (h.n ≤ t))) = true := by simpa using hbad
    go_wp2
    all_goals
      refine bodyPost_ret (v := .tuple #[.agg #[.int .i64 0, .int .i64 0], .int .i64 2]) (by simp [results, Try.results26, go_sem, r0, r1, rf0, rf1]) rfl ?_
      exact ⟨ret_span (by rw [spanLoR, HX.out]; rfl) (by rw [spanHiR, HX.out]; rfl) HX.out.symm, (HE1.out.setCell (by simp) _).setCell (by simp) _⟩
  obtain ⟨F, rfl⟩ : ∃ F : Nat, f = F := ⟨f.toNat, by omega⟩
  obtain ⟨T, rfl⟩ : ∃ T : Nat, t = T := ⟨t.toNat, by omega⟩
  have hft : F ≤ T := by omega
  have hTn : (T : Int) < h.n := by omega
  have hd1 : decide ((F : Int) < 0) = false := by simp
  have hd2 : decide ((T : Int) < (F : Int)) = false := by simp; omega
  have hd3 : decide (h.n ≤ (T : Int)) = false := by simp; omega
  have HBAD := Lib.hid hbad
  have HC := Lib.hid hc
  clear hbad hc
  go_wp2_with fail
  refine (agreeR_any h (.slice sa h.cs.length cap) V.out _ (HS.out.ext HE1.out)).mono ?_
  rintro e W2 ⟨rfl, hb2⟩
  replace k0 := cell_ext hb2 k0
  replace k1 := cell_ext hb2 k1
  replace k2 := cell_ext hb2 k2
  replace r0 := cell_ext hb2 r0
  replace r1 := cell_ext hb2 r1
  replace rf0 : W2.frozen? ⟨w.heap.size + 1, 0, none⟩ = false := (hb2.frozen (p := ⟨w.heap.size + 1, 0, none⟩) hz1).trans rf0
  replace rf1 : W2.frozen? ⟨w.heap.size + 1, 1, none⟩ = false := (hb2.frozen (p := ⟨w.heap.size + 1, 1, none⟩) hz1).trans rf1
  have hz2 : w.heap.size + 1 < W2.heap.size := World.block_lt_of_cell? _ _ r0
  have HE2 := Lib.hid (HE1.out.trans' hb2)
  clear hb2 hd1 hd2 hd3
  cases hok : (leastR h 0).2
  · have he : spanER h F T = 5 := by simp only [spanER, HC.out, if_neg HBAD.out, hok]; simp
    have HX := Lib.hid he
    clear he
    go_wp2_with fail
    refine bodyPost_ret (v := .tuple #[.agg #[.int .i64 0, .int .i64 0], .int .i64 5]) (by simp [results, Try.results26, go_sem, r0, r1, rf0, rf1]) rfl ?_
    exact ⟨ret_span (by rw [spanLoR, HX.out]; rfl) (by rw [spanHiR, HX.out]; rfl) HX.out.symm, (HE2.out.setCell (by simp) _).setCell (by simp) _⟩
  have he : spanER h F T = 0 := by simp only [spanER, HC.out, if_neg HBAD.out, hok]; simp
  have HX := Lib.hid he
  clear he hok
  go_wp2_with fail
  refine (leastR_any h (.slice sa h.cs.length cap) V.out F (by omega) _ (HS.out.ext HE2.out)).mono ?_
  rintro e W3 ⟨lv, rfl, hb3, hlv⟩
  replace k0 := cell_ext hb3 k0
  replace k1 := cell_ext hb3 k1
  replace k2 := cell_ext hb3 k2
  replace r0 := cell_ext hb3 r0
  replace r1 := cell_ext hb3 r1
  replace rf0 : W3.frozen? ⟨w.heap.size + 1, 0, none⟩ = false := (hb3.frozen (p := ⟨w.heap.size + 1, 0, none⟩) hz2).trans rf0
  replace rf1 : W3.frozen? ⟨w.heap.size + 1, 1, none⟩ = false := (hb3.frozen (p := ⟨w.heap.size + 1, 1, none⟩) hz2).trans rf1
  have hz3 : w.heap.size + 1 < W3.heap.size := World.block_lt_of_cell? _ _ r0
  have HE3 := Lib.hid (HE2.out.trans' hb3)
  have HLV := Lib.hid hlv
  obtain ⟨la, lcap, rfl, -, -, -⟩ := hlv.spec
  clear hb3 hlv
  have hw1 : IntKind.i64.wrap ((T : Int) + 1) = (T : Int) + 1 := IntWalk.i64_in _ (by omega)
  go_wp2_with fail
  refine (leastR_any h (.slice sa h.cs.length cap) V.out (T + 1) (by omega) _ (HS.out.ext HE3.out)).mono ?_
  rintro e W4 ⟨mv, rfl, hb4, hmv⟩
  replace r0 := cell_ext hb4 r0
  replace r1 := cell_ext hb4 r1
  replace rf0 : W4.frozen? ⟨w.heap.size + 1, 0, none⟩ = false := (hb4.frozen (p := ⟨w.heap.size + 1, 0, none⟩) hz3).trans rf0
  replace rf1 : W4.frozen? ⟨w.heap.size + 1, 1, none⟩ = false := (hb4.frozen (p := ⟨w.heap.size + 1, 1, none⟩) hz3).trans rf1
  have hz4 : w.heap.size + 1 < W4.heap.size := World.block_lt_of_cell? _ _ r0
  have HE4 := Lib.hid (HE3.out.trans' hb4)
  have hlv := HLV.out.ext hb4
  obtain ⟨ma, mcap, rfl, -, -, -⟩ := hmv.spec
  have L1 := leastR_len V.out F
  have L2 := leastR_len V.out (T + 1)
  obtain ⟨e1, lb, lo, rfl, hlc⟩ := hlv.opened (by omega)
  obtain ⟨e2, mb, mo, rfl, hmc⟩ := hmv.opened (by omega)
  have s1 := hlc (T + 1) (by omega)
  have s2 := hmc F (by omega)
  have B2 := leastR_bd V.out (T + 1) _ (List.getElem_mem (show F < (leastR h (T + 1)).1.length by omega))
  obtain ⟨x, hx⟩ : ∃ x, x = (leastR h F).1[T + 1]'(by omega) := ⟨_, rfl⟩
  obtain ⟨y, hy⟩ : ∃ y, y = (leastR h (T + 1)).1[F]'(by omega) := ⟨_, rfl⟩
  rw [← hx] at s1
  rw [← hy] at s2 B2
  have hx' : x = (leastR h F).1.getD (T + 1) 0 := by rw [hx, getD_lt]
  have hy' : y = (leastR h (T + 1)).1.getD F 0 := by rw [hy, getD_lt]
  have HXX := Lib.hid hx'
  have HYY := Lib.hid hy'
  have z1 := World.block_lt_of_cell? _ _ s1
  have z2 := World.block_lt_of_cell? _ _ s2
  simp only at z1 z2
  obtain ⟨N1, hN1⟩ : ∃ N1, (leastR h F).1.length = N1 := ⟨_, rfl⟩
  obtain ⟨N2, hN2⟩ : ∃ N2, (leastR h (T + 1)).1.length = N2 := ⟨_, rfl⟩
  have q1 : (N1 : Int) = h.n + 1 := by omega
  have q2 : (N2 : Int) = h.n + 1 := by omega
  clear hb4 hmv hlv hlc hmc hx hy hx' hy' L1 L2 e1 e2 k0 k1 k2 HLV
  rw [hN1, hN2]
  clear hN1 hN2
  have hw2 : ((T : Int) + 1).toNat = T + 1 := by omega
  have hw3 : (0 : Int) ≤ (T : Int) + 1 := by omega
  have hw4 : (T : Int) + 1 < (N1 : Int) := by omega
  have hw5 : (F : Int) < (N2 : Int) := by omega
  have hw6 : IntKind.i64.wrap (-y) = -y := IntWalk.i64_in _ (by omega)
  clear B2 q1 q2
  go_wp2_with fail
  go_region
  all_goals
    go_wp2_with fail
    refine bodyPost_ret (v := .tuple #[.agg #[.int .i64 (-y), .int .i64 x], .int .i64 0]) (by simp [results, Try.results26, go_sem, r0, r1, rf0, rf1]) rfl ?_
    refine ⟨ret_span (by rw [spanLoR, HX.out, if_pos rfl, HYY.out]; simp) (by rw [spanHiR, HX.out, if_pos rfl, HXX.out]; simp) HX.out.symm, (Below.setCell (Below.setCell (Below.drew HE4.out) (by simp) _) (by simp) _)⟩
end Go.Proofs.Ytgcldgchhdjnhaa
