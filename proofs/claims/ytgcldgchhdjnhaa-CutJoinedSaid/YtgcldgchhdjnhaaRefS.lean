/-
  The walks of the reference's Agree, TruthError, WayError, Span and Uses.
-/
import Derived.Test.YtgcldgchhdjnhaaLeastR
import Derived.Test.YtgcldgchhdjnhaaSpan
namespace Go.Proofs.Ytgcldgchhdjnhaa
open Go.RowKit Go.Shelf

set_option maxHeartbeats 1000000 in
theorem agreeR_any (h : Hall) (sv : Value) (v : Valid h) (w : World) (hs : IsCnts w sv h.cs) :
    Calls Try.prog 37 #[.agg #[.int .i64 h.n, .int .i64 h.most, sv]] w fun e w' => e = .returned (.bool (leastR h 0).2) ∧ Ext w w' := by
  obtain ⟨ca, ccap, rfl, hm1, hm2, -⟩ := hs.spec
  have HS := Lib.hid hs
  have V := Lib.hid v
  have n1 := v.n1
  clear hs v
  go_enter Try.func37, Try.ntmps37
  go_wp2_with fail
  refine (leastR_any h (.slice ca h.cs.length ccap) V.out 0 (by omega) _ (HS.out.ext (by repeat (first | exact Below.refl _ _ | refine Ext.al ?_ _ | refine Ext.dr ?_ | refine Ext.drN ?_ _ | refine Ext.gr ?_ _ | refine Ext.set ?_ (by simp) _ | (refine Ext.trans' ?_ (by assumption)))))).mono ?_
  rintro e W1 ⟨lv, rfl, hb1, _⟩
  have HE1 := Lib.hid (Ext.trans' (by exact (by repeat (first | exact Below.refl _ _ | refine Ext.al ?_ _ | refine Ext.dr ?_ | refine Ext.drN ?_ _ | refine Ext.gr ?_ _ | refine Ext.set ?_ (by simp) _ | (refine Ext.trans' ?_ (by assumption))))) hb1 : Ext w W1)
  clear hb1
  go_wp2_with fail
  go_ret
  exact ⟨rfl, HE1.out⟩

set_option maxHeartbeats 1000000 in
theorem truthError_any (h : Hall) (sv : Value) (w : World) (hs : IsCnts w sv h.cs) :
    Calls Try.prog 24 #[.agg #[.int .i64 h.n, .int .i64 h.most, sv]] w fun e w' => e = .returned (.int .i64 (truthErrR h)) ∧ Ext w w' := by
  obtain ⟨ca, ccap, rfl, hm1, hm2, -⟩ := hs.spec
  have HS := Lib.hid hs
  clear hs
  go_enter Try.func24, Try.ntmps24
  go_wp2_with fail
  refine (checkHallR_any h (.slice ca h.cs.length ccap) _ (HS.out.ext (by repeat (first | exact Below.refl _ _ | refine Ext.al ?_ _ | refine Ext.dr ?_ | refine Ext.drN ?_ _ | refine Ext.gr ?_ _ | refine Ext.set ?_ (by simp) _ | (refine Ext.trans' ?_ (by assumption)))))).mono ?_
  rintro e W1 ⟨rfl, hb1⟩
  have k0 := cell_ext hb1 (a := ⟨w.heap.size, 0, none⟩) (v := .int .i64 h.n) (by simp [go_sem])
  have k1 := cell_ext hb1 (a := ⟨w.heap.size, 1, none⟩) (v := .int .i64 h.most) (by simp [go_sem])
  have k2 := cell_ext hb1 (a := ⟨w.heap.size, 2, none⟩) (v := .slice ca h.cs.length ccap) (by simp [go_sem])
  have HE1 := Lib.hid (Ext.trans' (by exact (by repeat (first | exact Below.refl _ _ | refine Ext.al ?_ _ | refine Ext.dr ?_ | refine Ext.drN ?_ _ | refine Ext.gr ?_ _ | refine Ext.set ?_ (by simp) _ | (refine Ext.trans' ?_ (by assumption))))) hb1 : Ext w W1)
  clear hb1
  by_cases hc : chk h = 0
  · have hc' : (chk h == 0) = true := by simpa using hc
    have V := Lib.hid (valid_of_chk hc)
    have HC := Lib.hid hc
    clear hc
    go_wp2_with fail
    refine (agreeR_any h (.slice ca h.cs.length ccap) V.out _ (HS.out.ext HE1.out)).mono ?_
    rintro e W2 ⟨rfl, hb2⟩
    cases hok : (leastR h 0).2
    · go_wp2_with fail
      go_ret
      exact ⟨ret_int (by simp [truthErrR, HC.out, hok]), HE1.out.trans' hb2⟩
    · go_wp2_with fail
      go_ret
      exact ⟨ret_int (by simp [truthErrR, HC.out, hok]), HE1.out.trans' hb2⟩
  · have hc' : (chk h == 0) = false := by simpa using hc
    go_wp2_with fail
    refine (checkHallR_any h (.slice ca h.cs.length ccap) _ (HS.out.ext HE1.out)).mono ?_
    rintro e W2 ⟨rfl, hb2⟩
    go_wp2_with fail
    go_ret
    exact ⟨ret_int (by simp [truthErrR, hc]), HE1.out.trans' hb2⟩

set_option maxHeartbeats 1000000 in
theorem wayError_any (h : Hall) (sv : Value) (f t : Int) (w : World) (hs : IsCnts w sv h.cs) :
    Calls Try.prog 31 #[.agg #[.int .i64 h.n, .int .i64 h.most, sv], .int .i64 f, .int .i64 t] w fun e w' => e = .returned (.int .i64 (wayErrR h f t)) ∧ Ext w w' := by
  obtain ⟨ca, ccap, rfl, hm1, hm2, -⟩ := hs.spec
  have HS := Lib.hid hs
  clear hs
  go_enter Try.func31, Try.ntmps31
  go_wp2_with fail
  refine (places_any h (.slice ca h.cs.length ccap) f t _ (HS.out.ext (by repeat (first | exact Below.refl _ _ | refine Ext.al ?_ _ | refine Ext.dr ?_ | refine Ext.drN ?_ _ | refine Ext.gr ?_ _ | refine Ext.set ?_ (by simp) _ | (refine Ext.trans' ?_ (by assumption)))))).mono ?_
  rintro e W1 ⟨rfl, hb1⟩
  have k0 := cell_ext hb1 (a := ⟨w.heap.size, 0, none⟩) (v := .int .i64 h.n) (by simp [go_sem])
  have k1 := cell_ext hb1 (a := ⟨w.heap.size, 1, none⟩) (v := .int .i64 h.most) (by simp [go_sem])
  have k2 := cell_ext hb1 (a := ⟨w.heap.size, 2, none⟩) (v := .slice ca h.cs.length ccap) (by simp [go_sem])
  have HE1 := Lib.hid (Ext.trans' (by exact (by repeat (first | exact Below.refl _ _ | refine Ext.al ?_ _ | refine Ext.dr ?_ | refine Ext.drN ?_ _ | refine Ext.gr ?_ _ | refine Ext.set ?_ (by simp) _ | (refine Ext.trans' ?_ (by assumption))))) hb1 : Ext w W1)
  clear hb1
  by_cases ho : openE h [f, t] = 0
  · have ho' : (openE h [f, t] == 0) = true := by simpa using ho
    have HO := Lib.hid ho
    clear ho
    go_wp2_with fail
    refine (truthError_any h (.slice ca h.cs.length ccap) _ (HS.out.ext HE1.out)).mono ?_
    rintro e W2 ⟨rfl, hb2⟩
    go_wp2_with fail
    go_ret
    exact ⟨ret_int (by simp [wayErrR, HO.out]), HE1.out.trans' hb2⟩
  · have ho' : (openE h [f, t] == 0) = false := by simpa using ho
    go_wp2_with fail
    refine (places_any h (.slice ca h.cs.length ccap) f t _ (HS.out.ext HE1.out)).mono ?_
    rintro e W2 ⟨rfl, hb2⟩
    go_wp2_with fail
    go_ret
    exact ⟨ret_int (by simp [wayErrR, ho]), HE1.out.trans' hb2⟩

set_option maxHeartbeats 1000000 in
theorem uses_any (l : List Stp) (lv : Value) (c : Int) (w : World) (hv : IsStps w lv l) :
    Calls Try.prog 85 #[lv, .int .i64 c] w fun e w' => e = .returned (.bool (usesM l c)) ∧ Ext w w' := by
  obtain ⟨sa, cap, rfl, hl1, hl2, -⟩ := hv.spec
  have HV := Lib.hid hv
  clear hv
  go_enter Try.func85, Try.ntmps85
  go_wp2_with fail
  go_loopw [5] (fun i W => ∃ k : Nat, k ≤ l.length ∧ i = .int .i64 k ∧ (∀ x ∈ l.take k, (!x.win && (x.idx == c)) = false) ∧ Ext w W) (fun i _ => l.length - (intOf i).toNat)
  case atStart => exact ⟨0, Nat.zero_le _, rfl, by simp, Below.refl _ _⟩
  case round =>
    obtain ⟨k, hk, rfl, hno, hb⟩ := hrel
    have HN := Lib.hid hno
    have HB := Lib.hid hb
    clear hno
    by_cases hlt : k < l.length
    · rcases (HV.out.ext hb).opened with e | ⟨cb, off, rfl, hc⟩
      · simp [e] at hlt
      obtain ⟨c0, c1, c2⟩ := hc k hlt
      have hx : ∃ x, x = l[k] := ⟨_, rfl⟩
      obtain ⟨x, hx⟩ := hx
      have HX := Lib.hid hx
      rw [← hx] at c0 c1 c2
      clear hc hb hx c2
      obtain ⟨xw, xi, xb⟩ := x
      cases xw
      · by_cases hi : xi = c
        · have hi' : (xi == c) = true := by simpa using hi
          go_wp2_with fail
          go_ret
          exact ⟨ret_bool (any_of_at hlt (by rw [← HX.out]; simp [hi])).symm, HB.out⟩
        · have hi' : (xi == c) = false := by simpa using hi
          go_wp2_with fail
          go_roundw
          case rel => exact ⟨k + 1, by omega, by go_num, take_ext hlt HN.out (by rw [← HX.out]; simp [hi]), HB.out⟩
          case measure => simp [intOf]; omega
      · go_wp2_with fail
        go_roundw
        case rel => exact ⟨k + 1, by omega, by go_num, take_ext hlt HN.out (by rw [← HX.out]; simp), HB.out⟩
        case measure => simp [intOf]; omega
    · go_wp2_with fail
      go_ret
      exact ⟨ret_bool (by unfold usesM; rw [any_of_none (take_all hlt HN.out)]), HB.out⟩
end Go.Proofs.Ytgcldgchhdjnhaa
