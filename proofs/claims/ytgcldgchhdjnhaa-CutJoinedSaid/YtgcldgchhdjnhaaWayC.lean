/-
  The walks of isRing and CheckWay.
-/
import Derived.Test.YtgcldgchhdjnhaaFollow
namespace Go.Proofs.Ytgcldgchhdjnhaa
open Go.RowKit Go.Shelf

set_option maxHeartbeats 1000000 in
theorem isRing_any (h : Hall) (sv lv : Value) (l : List Stp) (v : Valid h) (hl : ∀ x ∈ l, okStp h x = true) (h200 : l.length ≤ 200) (b r : Nat) (w : World) (hs : SheetAt w b r h sv) (hv : IsStps w lv l) :
    Calls Try.prog 83 #[.pointer (some ⟨b, 0, none⟩), lv] w fun e w' => e = .returned (.bool (isRingM h l)) ∧ Ext w w' := by
  obtain ⟨sa, cap, rfl, hl1, hl2, hl3⟩ := hv.spec
  have HS := Lib.hid hs
  have HV := Lib.hid hv
  have V := Lib.hid v
  have HL := Lib.hid hl
  clear hs hv v hl
  cases l with
  | nil =>
    clear hl3
    go_enter Try.func83, Try.ntmps83
    go_wp2_with fail
    go_ret
    exact ⟨ret_bool (by simp [isRingM]), (by repeat (first | exact Below.refl _ _ | refine Ext.al ?_ _ | refine Ext.dr ?_ | refine Ext.drN ?_ _ | refine Ext.gr ?_ _ | refine Ext.set ?_ (by simp) _ | (refine Ext.trans' ?_ (by assumption))))⟩
  | cons x l =>
    rcases hl3 with e | ⟨cb, off, rfl, hc⟩
    · cases e
    have hc0 := hc 0 (by simp)
    simp only [List.getElem_cons_zero, Nat.zero_mul, Nat.add_zero] at hc0
    obtain ⟨c0, c1, c2⟩ := hc0
    clear hc
    obtain ⟨n, hn⟩ : ∃ n : Nat, (x :: l).length = n := ⟨_, rfl⟩
    have hn0 : 0 < n := by rw [← hn]; simp
    have hnn : ((n : Int) == 0) = false := by simp; omega
    have HN := Lib.hid hn
    rw [hn] at hl1 ⊢
    have hn200 : n ≤ 200 := by omega
    clear hn h200
    go_enter Try.func83, Try.ntmps83
    go_wp2_with fail
    refine (ends_any h (sv := sv) x b _ V.out (HL.out x (by simp)) HS.out.at).mono ?_
    rintro e W1 ⟨rfl, hb1⟩
    have HB1 := Lib.hid hb1
    clear hb1
    go_wp2_with fail
    refine (follow_any h sv (.slice (some ⟨cb, off, none⟩) n cap) (src h x) (x :: l) V.out HL.out (by rw [HN.out]; exact hn200) b r _ (HS.out.ext HB1.out) (HN.out ▸ HV.out.ext HB1.out)).mono ?_
    rintro e W2 ⟨rfl, hb2⟩
    have HB2 := Lib.hid (HB1.out.trans' hb2)
    clear hb2
    have hdef : isRingM h (x :: l) = ((fol h 0 (src h x) (x :: l)).2.2 && decide ((fol h 0 (src h x) (x :: l)).2.1 = src h x) && decide ((fol h 0 (src h x) (x :: l)).1 < 0)) := rfl
    have HD := Lib.hid hdef
    clear hdef
    generalize fol h 0 (src h x) (x :: l) = R at *
    obtain ⟨R1, R2, R3⟩ := R
    cases R3
    · go_wp2_with fail
      go_ret
      exact ⟨ret_bool (by rw [HD.out]; simp), HB2.out⟩
    · by_cases h2 : R2 = src h x
      · have h2' : (R2 == src h x) = true := by simpa using h2
        go_wp2_with fail
        go_ret
        exact ⟨ret_bool (by rw [HD.out]; simp [h2]), HB2.out⟩
      · have h2' : (R2 == src h x) = false := by simpa using h2
        go_wp2_with fail
        go_ret
        exact ⟨ret_bool (by rw [HD.out]; simp [h2]), HB2.out⟩

theorem any_odd {h : Hall} {l : List Stp} (e : l.any (oddS h) = false) : ∀ x ∈ l, okStp h x = true := fun x hx => by
  have := List.any_eq_false.1 e x hx
  simpa [oddS] using this

set_option maxHeartbeats 1000000 in
theorem checkWay_any (h : Hall) (sv lv : Value) (f t : Int) (l : List Stp) (w : World) (hs : IsCnts w sv h.cs) (hv : IsStps w lv l) :
    Calls Try.prog 28 #[.agg #[.int .i64 h.n, .int .i64 h.most, sv], .int .i64 f, .int .i64 t, lv] w fun e w' =>
      e = .returned (.tuple #[.int .i64 (wayE h f t l).1, .int .i64 (wayE h f t l).2]) ∧ Ext w w' := by
  obtain ⟨ca, ccap, rfl, hm1, hm2, -⟩ := hs.spec
  obtain ⟨sa, cap, rfl, hl1, hl2, -⟩ := hv.spec
  have HS := Lib.hid hs
  have HV := Lib.hid hv
  clear hs hv
  go_enter Try.func28, Try.ntmps28
  go_wp2_with fail
  by_cases ho : openE h [f, t] = 0
  · have hc : chk h = 0 := by
      unfold openE at ho
      by_cases e : chk h = 0
      · exact e
      · simp [e] at ho
    have V := Lib.hid (valid_of_chk hc)
    refine (open_ok h (.slice ca h.cs.length ccap) _ [f, t] _ (HS.out.ext (by repeat (first | exact Below.refl _ _ | refine Ext.al ?_ _ | refine Ext.dr ?_ | refine Ext.drN ?_ _ | refine Ext.gr ?_ _ | refine Ext.set ?_ (by simp) _ | (refine Ext.trans' ?_ (by assumption))))) (isInts_two (by omega) (by omega) (by simp [go_sem]) (by simp [go_sem])) ho).mono ?_
    rintro e W1 ⟨b, r, rfl, hb1, hsh⟩
    have hE1 : Ext w W1 := Ext.trans' (by repeat (first | exact Below.refl _ _ | refine Ext.al ?_ _ | refine Ext.dr ?_ | refine Ext.drN ?_ _ | refine Ext.gr ?_ _ | refine Ext.set ?_ (by simp) _ | (refine Ext.trans' ?_ (by assumption)))) hb1
    have HE1 := Lib.hid hE1
    have HSh := Lib.hid hsh
    clear hb1 hsh hE1
    by_cases h200 : 200 < l.length
    · have h200' : decide ((200 : Int) < (l.length : Int)) = true := by simp; omega
      go_wp2_with fail
      refine bodyPost_ret (v := .tuple #[.int .i64 0, .int .i64 6]) (by simp [results, Try.results28, go_sem]) rfl ?_
      exact ⟨ret_ii (by simp [wayE, ho, h200]) (by simp [wayE, ho, h200]), HE1.out⟩
    · have h200' : decide ((200 : Int) < (l.length : Int)) = false := by simp; omega
      go_wp2_with fail
      refine (containsFuncStpB l sa cap 71 #[.pointer (some ⟨b, 0, none⟩)] #[] (oddS h) _ (by omega) (HV.out.ext HE1.out).opened
        (fun args W => Try.call71 args W) (fun x _ W hW => odd_any h _ x b r W (HSh.out.ext hW))).mono ?_
      rintro e W2 ⟨rfl, hb2⟩
      have HE2 := Lib.hid (HE1.out.trans' hb2)
      have HSh2 := Lib.hid (HSh.out.ext hb2)
      clear hb2
      cases hodd : l.any (oddS h)
      · go_wp2_with fail
        refine (follow_any h _ (.slice sa l.length cap) f l V.out (any_odd hodd) (by omega) b r _ HSh2.out (HV.out.ext HE2.out)).mono ?_
        rintro e W3 ⟨rfl, hb3⟩
        have HE3 := Lib.hid (HE2.out.trans' hb3)
        clear hb3
        have hdef : wayE h f t l = if (fol h 0 f l).2.2 = true ∧ (fol h 0 f l).2.1 = t then ((fol h 0 f l).1, 0) else (0, 16) := by
          simp only [wayE, ho, h200, hodd]; simp
        have HD := Lib.hid hdef
        clear hdef
        generalize fol h 0 f l = R at *
        obtain ⟨R1, R2, R3⟩ := R
        cases R3
        · go_wp2_with fail
          refine bodyPost_ret (v := .tuple #[.int .i64 0, .int .i64 16]) (by simp [results, Try.results28, go_sem]) rfl ?_
          exact ⟨by rw [HD.out]; simp, HE3.out⟩
        · by_cases h2 : R2 = t
          · have h2' : (R2 == t) = true := by simpa using h2
            go_wp2_with fail
            refine bodyPost_ret (v := .tuple #[.int .i64 R1, .int .i64 0]) (by simp [results, Try.results28, go_sem]) rfl ?_
            exact ⟨by rw [HD.out]; simp [h2], HE3.out⟩
          · have h2' : (R2 == t) = false := by simpa using h2
            go_wp2_with fail
            refine bodyPost_ret (v := .tuple #[.int .i64 0, .int .i64 16]) (by simp [results, Try.results28, go_sem]) rfl ?_
            exact ⟨by rw [HD.out]; simp [h2], HE3.out⟩
      · go_wp2_with fail
        refine bodyPost_ret (v := .tuple #[.int .i64 0, .int .i64 3]) (by simp [results, Try.results28, go_sem]) rfl ?_
        exact ⟨ret_ii (by simp [wayE, ho, h200, hodd]) (by simp [wayE, ho, h200, hodd]), HE2.out⟩
  · refine (open_bad h (.slice ca h.cs.length ccap) _ [f, t] _ (HS.out.ext (by repeat (first | exact Below.refl _ _ | refine Ext.al ?_ _ | refine Ext.dr ?_ | refine Ext.drN ?_ _ | refine Ext.gr ?_ _ | refine Ext.set ?_ (by simp) _ | (refine Ext.trans' ?_ (by assumption))))) (isInts_two (by omega) (by omega) (by simp [go_sem]) (by simp [go_sem])) ho).mono ?_
    rintro e W1 ⟨rfl, hb1⟩
    have ho' : (openE h [f, t] == 0) = false := by simpa using ho
    go_wp2_with fail
    refine bodyPost_ret (v := .tuple #[.int .i64 0, .int .i64 (openE h [f, t])]) (by simp [results, Try.results28, go_sem]) rfl ?_
    exact ⟨ret_ii (by simp [wayE, ho]) (by simp [wayE, ho]), (by repeat (first | exact Below.refl _ _ | refine Ext.al ?_ _ | refine Ext.dr ?_ | refine Ext.drN ?_ _ | refine Ext.gr ?_ _ | refine Ext.set ?_ (by simp) _ | (refine Ext.trans' ?_ (by assumption))))⟩
end Go.Proofs.Ytgcldgchhdjnhaa
