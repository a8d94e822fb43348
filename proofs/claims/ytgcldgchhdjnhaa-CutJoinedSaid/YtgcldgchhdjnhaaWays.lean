/-
  The walks of Way and Ring. What is asked of the least sums, that going back ends, is shown elsewhere.
-/
import Derived.Test.YtgcldgchhdjnhaaRing
import Derived.Test.YtgcldgchhdjnhaaOpen
namespace Go.Proofs.Ytgcldgchhdjnhaa
open Go.RowKit Go.Shelf

set_option maxRecDepth 100000 in
set_option maxHeartbeats 2000000 in
theorem wayP_any (h : Hall) (sv : Value) (f t : Int) (w : World) (hs : IsCnts w sv h.cs) (hM : wayErr h f t = 0 → ∃ K, K ≤ 1000 ∧ Chain (leastM h f.toNat).1 f.toNat K t.toNat) :
    Calls Try.prog 30 #[.agg #[.int .i64 h.n, .int .i64 h.most, sv], .int .i64 f, .int .i64 t] w fun e w' =>
      ∃ v l, e = .returned (.tuple #[v, .int .i64 (wayErr h f t)]) ∧ Ext w w' ∧ IsStps w' v l ∧ (wayErr h f t = 0 → ∃ K, K ≤ 1000 ∧ Chain (leastM h f.toNat).1 f.toNat K t.toNat ∧ l = (backs (leastM h f.toNat).1 K t.toNat).reverse) ∧ (wayErr h f t ≠ 0 → l = []) := by
  obtain ⟨ca, ccap, rfl, hm1, hm2, -⟩ := hs.spec
  have HS := Lib.hid hs
  have HM := Lib.hid hM
  clear hs hM
  by_cases ho : openE h [f, t] = 0
  · obtain ⟨hc, p1, p2, p3, p4⟩ := open_places ho
    obtain ⟨F, rfl⟩ : ∃ F : Nat, f = F := ⟨f.toNat, by omega⟩
    obtain ⟨T, rfl⟩ : ∃ T : Nat, t = T := ⟨t.toNat, by omega⟩
    have V := Lib.hid (valid_of_chk hc)
    go_enter Try.func30, Try.ntmps30
    go_wp2_with fail
    refine (open_ok h (.slice ca h.cs.length ccap) _ [(F : Int), (T : Int)] _ (HS.out.ext (by repeat (first | exact Below.refl _ _ | refine Ext.al ?_ _ | refine Ext.dr ?_ | refine Ext.drN ?_ _ | refine Ext.gr ?_ _ | refine Ext.set ?_ (by simp) _ | (refine Ext.trans' ?_ (by assumption))))) (isInts_two (by omega) (by omega) (by simp [go_sem]) (by simp [go_sem])) ho).mono ?_
    rintro e W1 ⟨b, r, rfl, hb1, hsh⟩
    have HE1 := Lib.hid (Ext.trans' (by exact (by repeat (first | exact Below.refl _ _ | refine Ext.al ?_ _ | refine Ext.dr ?_ | refine Ext.drN ?_ _ | refine Ext.gr ?_ _ | refine Ext.set ?_ (by simp) _ | (refine Ext.trans' ?_ (by assumption))))) hb1 : Ext w W1)
    have HSh := Lib.hid hsh
    clear hb1 hsh
    go_wp2_with fail
    refine (least_any h _ V.out F (by omega) b r _ HSh.out).mono ?_
    rintro e W2 ⟨rfl, hb2, hwy⟩
    have HE2 := Lib.hid (HE1.out.trans' hb2)
    have HW := Lib.hid hwy
    clear hb2 hwy
    cases hok : (leastM h F).2
    · have he : wayErr h F T = 5 := by simp only [wayErr, ho, Int.toNat_natCast, hok]; simp
      have HX := Lib.hid he
      clear he
      go_wp2_with fail
      refine bodyPost_ret (v := .tuple #[.slice none 0 0, .int .i64 5]) (by simp [results, Try.results30, go_sem]) rfl ?_
      exact ⟨.slice none 0 0, [], by rw [HX.out], HE2.out, IsStps.nil _, fun e => by rw [HX.out] at e; omega, fun _ => rfl⟩
    · have he : wayErr h F T = 0 := by simp only [wayErr, ho, Int.toNat_natCast, hok]; simp
      obtain ⟨K, hK, hch⟩ := HM.out he
      have HX := Lib.hid he
      have HCH := Lib.hid hch
      clear he hch
      go_wp2_with fail
      refine (way_any (leastM h F).1 F T K hK HCH.out _ _ HW.out).mono ?_
      rintro e W3 ⟨v3, rfl, hb3, hst⟩
      have HE3 := Lib.hid (HE2.out.trans' hb3)
      have HST := Lib.hid hst
      clear hb3 hst
      go_wp2_with fail
      refine bodyPost_ret (v := .tuple #[v3, .int .i64 0]) (by simp [results, Try.results30, go_sem]) rfl ?_
      exact ⟨v3, _, by rw [HX.out], HE3.out, HST.out, fun _ => ⟨K, hK, HCH.out, rfl⟩, fun e => absurd HX.out e⟩
  · have ho' : (openE h [f, t] == 0) = false := by simpa using ho
    have he : wayErr h f t = openE h [f, t] := by simp [wayErr, ho]
    have HX := Lib.hid he
    have HO := Lib.hid ho
    clear he
    go_enter Try.func30, Try.ntmps30
    go_wp2_with fail
    refine (open_bad h (.slice ca h.cs.length ccap) _ [f, t] _ (HS.out.ext (by repeat (first | exact Below.refl _ _ | refine Ext.al ?_ _ | refine Ext.dr ?_ | refine Ext.drN ?_ _ | refine Ext.gr ?_ _ | refine Ext.set ?_ (by simp) _ | (refine Ext.trans' ?_ (by assumption))))) (isInts_two (by omega) (by omega) (by simp [go_sem]) (by simp [go_sem])) HO.out).mono ?_
    rintro e W1 ⟨rfl, hb1⟩
    have HE1 := Lib.hid (Ext.trans' (by exact (by repeat (first | exact Below.refl _ _ | refine Ext.al ?_ _ | refine Ext.dr ?_ | refine Ext.drN ?_ _ | refine Ext.gr ?_ _ | refine Ext.set ?_ (by simp) _ | (refine Ext.trans' ?_ (by assumption))))) hb1 : Ext w W1)
    clear hb1
    go_wp2_with fail
    refine bodyPost_ret (v := .tuple #[.slice none 0 0, .int .i64 (openE h [f, t])]) (by simp [results, Try.results30, go_sem]) rfl ?_
    exact ⟨.slice none 0 0, [], by rw [HX.out], HE1.out, IsStps.nil _, fun e => absurd (HX.out.symm.trans e) HO.out, fun _ => rfl⟩

set_option maxRecDepth 100000 in
set_option maxHeartbeats 2000000 in
theorem ringP_any (h : Hall) (sv : Value) (w : World) (hs : IsCnts w sv h.cs) (hM : ringErr h = 0 → RingOk (leastM h 0).1) :
    Calls Try.prog 36 #[.agg #[.int .i64 h.n, .int .i64 h.most, sv]] w fun e w' =>
      ∃ v l, e = .returned (.tuple #[v, .int .i64 (ringErr h)]) ∧ Ext w w' ∧ IsStps w' v l ∧ (ringErr h = 0 → ∃ K, K ≤ 1000 ∧ Chain (leastM h 0).1 (ringAt (leastM h 0).1) K ((leastM h 0).1.before (ringAt (leastM h 0).1)).toNat ∧ l = (ringBack (leastM h 0).1 K).reverse) ∧ (ringErr h ≠ 0 → l = []) := by
  obtain ⟨ca, ccap, rfl, hm1, hm2, -⟩ := hs.spec
  have HS := Lib.hid hs
  have HM := Lib.hid hM
  clear hs hM
  by_cases hc : chk h = 0
  · have V := Lib.hid (valid_of_chk hc)
    have n1 := V.out.n1
    go_enter Try.func36, Try.ntmps36
    go_wp2_with fail
    refine (open_ok h (.slice ca h.cs.length ccap) (.slice none 0 0) [] _ (HS.out.ext (by repeat (first | exact Below.refl _ _ | refine Ext.al ?_ _ | refine Ext.dr ?_ | refine Ext.drN ?_ _ | refine Ext.gr ?_ _ | refine Ext.set ?_ (by simp) _ | (refine Ext.trans' ?_ (by assumption))))) (IsInts.nil _ _) (by rw [openE_nil]; exact hc)).mono ?_
    rintro e W1 ⟨b, r, rfl, hb1, hsh⟩
    have HE1 := Lib.hid (Ext.trans' (by exact (by repeat (first | exact Below.refl _ _ | refine Ext.al ?_ _ | refine Ext.dr ?_ | refine Ext.drN ?_ _ | refine Ext.gr ?_ _ | refine Ext.set ?_ (by simp) _ | (refine Ext.trans' ?_ (by assumption))))) hb1 : Ext w W1)
    have HSh := Lib.hid hsh
    clear hb1 hsh
    go_wp2_with fail
    refine (least_any h _ V.out 0 (by omega) b r _ HSh.out).mono ?_
    rintro e W2 ⟨rfl, hb2, hwy⟩
    have HE2 := Lib.hid (HE1.out.trans' hb2)
    have HW := Lib.hid hwy
    clear hb2 hwy
    cases hok : (leastM h 0).2
    · have he : ringErr h = 0 := by simp only [ringErr, hc, hok]; simp
      obtain ⟨hin, hr0, hr1, K, hK, hch⟩ := HM.out he
      have HX := Lib.hid he
      have HCH := Lib.hid hch
      have HIN := Lib.hid hin
      clear he hch hin
      go_wp2_with fail
      refine (ring_any (leastM h 0).1 K hK HIN.out hr0 hr1 HCH.out _ _ HW.out).mono ?_
      rintro e W3 ⟨v3, rfl, hb3, hst⟩
      have HE3 := Lib.hid (HE2.out.trans' hb3)
      have HST := Lib.hid hst
      clear hb3 hst
      go_wp2_with fail
      refine bodyPost_ret (v := .tuple #[v3, .int .i64 0]) (by simp [results, Try.results36, go_sem]) rfl ?_
      exact ⟨v3, _, by rw [HX.out], HE3.out, HST.out, fun _ => ⟨K, hK, HCH.out, rfl⟩, fun e => absurd HX.out e⟩
    · have he : ringErr h = 11 := by simp only [ringErr, hc, hok]; simp
      have HX := Lib.hid he
      clear he
      go_wp2_with fail
      refine bodyPost_ret (v := .tuple #[.slice none 0 0, .int .i64 11]) (by simp [results, Try.results36, go_sem]) rfl ?_
      exact ⟨.slice none 0 0, [], by rw [HX.out], HE2.out, IsStps.nil _, fun e => by rw [HX.out] at e; omega, fun _ => rfl⟩
  · have hc' : (chk h == 0) = false := by simpa using hc
    have he : ringErr h = chk h := by simp [ringErr, hc]
    have HX := Lib.hid he
    have HC := Lib.hid hc
    clear he
    go_enter Try.func36, Try.ntmps36
    go_wp2_with fail
    refine (open_bad h (.slice ca h.cs.length ccap) (.slice none 0 0) [] _ (HS.out.ext (by repeat (first | exact Below.refl _ _ | refine Ext.al ?_ _ | refine Ext.dr ?_ | refine Ext.drN ?_ _ | refine Ext.gr ?_ _ | refine Ext.set ?_ (by simp) _ | (refine Ext.trans' ?_ (by assumption))))) (IsInts.nil _ _) (by rw [openE_nil]; exact HC.out)).mono ?_
    rintro e W1 ⟨rfl, hb1⟩
    rw [openE_nil]
    have HE1 := Lib.hid (Ext.trans' (by exact (by repeat (first | exact Below.refl _ _ | refine Ext.al ?_ _ | refine Ext.dr ?_ | refine Ext.drN ?_ _ | refine Ext.gr ?_ _ | refine Ext.set ?_ (by simp) _ | (refine Ext.trans' ?_ (by assumption))))) hb1 : Ext w W1)
    clear hb1
    go_wp2_with fail
    refine bodyPost_ret (v := .tuple #[.slice none 0 0, .int .i64 (chk h)]) (by simp [results, Try.results36, go_sem]) rfl ?_
    exact ⟨.slice none 0 0, [], by rw [HX.out], HE1.out, IsStps.nil _, fun e => absurd (HX.out.symm.trans e) HC.out, fun _ => rfl⟩
end Go.Proofs.Ytgcldgchhdjnhaa
