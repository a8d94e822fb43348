/-
  The walks of the reference's IsRing, CheckWay, Sum and CheckTruth.
  The walk of the reference's CheckTruth.
-/
import Derived.Test.YtgcldgchhdjnhaaFollowR
import Derived.Test.YtgcldgchhdjnhaaFollow
namespace Go.Proofs.Ytgcldgchhdjnhaa
open Go.RowKit Go.Shelf

set_option maxHeartbeats 1000000 in
theorem isRingR_any (h : Hall) (sv lv : Value) (l : List Stp) (v : Valid h) (hl : ∀ x ∈ l, okStp h x = true) (h200 : l.length ≤ 200) (w : World) (hs : IsCnts w sv h.cs) (hv : IsStps w lv l) :
    Calls Try.prog 84 #[.agg #[.int .i64 h.n, .int .i64 h.most, sv], lv] w fun e w' => e = .returned (.bool (isRingM h l)) ∧ Ext w w' := by
  obtain ⟨ca, ccap, rfl, hm1, hm2, -⟩ := hs.spec
  obtain ⟨sa, cap, rfl, hl1, hl2, hl3⟩ := hv.spec
  have HS := Lib.hid hs
  have HV := Lib.hid hv
  have V := Lib.hid v
  have HL := Lib.hid hl
  clear hs hv v hl
  cases l with
  | nil =>
    clear hl3
    go_enter Try.func84, Try.ntmps84
    go_wp2_with fail
    go_ret
    exact ⟨ret_bool (by simp [isRingM]), (by repeat (first | exact Below.refl _ _ | refine Ext.al ?_ _ | refine Ext.dr ?_ | refine Ext.drN ?_ _ | refine Ext.gr ?_ _ | refine Ext.set ?_ (by simp) _ | (refine Ext.trans' ?_ (by assumption))))⟩
  | cons x l =>
    rcases hl3 with e | ⟨cb, off, rfl, hc⟩
    · cases e
    have hc0 := hc 0 (by simp)
    simp only [List.getElem_cons_zero, Nat.zero_mul, Nat.add_zero] at hc0
    obtain ⟨c0, c1, c2⟩ := hc0
    clear hc
    obtain ⟨n, hn⟩ : ∃ n : Nat, (x :: l).length = n := ⟨_, rfl⟩
    have hn0 : 0 < n := by rw [← hn]; simp
    have hnn : ((n : Int) == 0) = false := by simp; omega
    have HN := Lib.hid hn
    rw [hn] at hl1 ⊢
    have hn200 : n ≤ 200 := by omega
    clear hn h200
    have z2 := World.block_lt_of_cell? _ _ c0
    simp only at z2
    go_enter Try.func84, Try.ntmps84
    go_wp2_with fail
    refine wp_region_grow (by kernel_rfl) (by kernel_rfl) ?_
    repeat (first | go_big_quiet_step ((go_at_call 78; exact grow_call (endsR_any h _ x _ V.out (HL.out x (by simp)) ((HS.out.ext (by exact (by repeat (first | exact Below.refl _ _ | refine Ext.al ?_ _ | refine Ext.dr ?_ | refine Ext.drN ?_ _ | refine Ext.gr ?_ _ | refine Ext.set ?_ (by simp) _ | (refine Ext.trans' ?_ (by assumption)))))).ext (grow_below _ _))))) | quiet_step ((go_at_call 78; exact grow_call (endsR_any h _ x _ V.out (HL.out x (by simp)) ((HS.out.ext (by exact (by repeat (first | exact Below.refl _ _ | refine Ext.al ?_ _ | refine Ext.dr ?_ | refine Ext.drN ?_ _ | refine Ext.gr ?_ _ | refine Ext.set ?_ (by simp) _ | (refine Ext.trans' ?_ (by assumption)))))).ext (grow_below _ _))))))
    refine wpQuiet_nil ?_
    rintro _ ⟨g, rfl⟩
    have hb1 : Ext (w.alloc (.cells #[.int .i64 h.n, .int .i64 h.most, .slice ca h.cs.length ccap] 24)) (grow (w.alloc (.cells #[.int .i64 h.n, .int .i64 h.most, .slice ca h.cs.length ccap] 24)) g) := grow_below _ _
    have hE1 : Ext w (grow (w.alloc (.cells #[.int .i64 h.n, .int .i64 h.most, .slice ca h.cs.length ccap] 24)) g) := Ext.trans' (by repeat (first | exact Below.refl _ _ | refine Ext.al ?_ _ | refine Ext.dr ?_ | refine Ext.drN ?_ _ | refine Ext.gr ?_ _ | refine Ext.set ?_ (by simp) _ | (refine Ext.trans' ?_ (by assumption)))) hb1
    have HB1 := Lib.hid hE1
    clear hb1 hE1
    go_wp2_with fail
    refine (followed_any h (.slice ca h.cs.length ccap) (.slice (some ⟨cb, off, none⟩) n cap) (src h x) (x :: l) V.out HL.out (by rw [HN.out]; exact hn200) _ (HS.out.ext HB1.out) (HN.out ▸ HV.out.ext HB1.out)).mono ?_
    rintro e W2 ⟨rfl, hb2⟩
    have HB2 := Lib.hid (HB1.out.trans' hb2)
    clear hb2
    have hdef : isRingM h (x :: l) = ((fol h 0 (src h x) (x :: l)).2.2 && decide ((fol h 0 (src h x) (x :: l)).2.1 = src h x) && decide ((fol h 0 (src h x) (x :: l)).1 < 0)) := rfl
    have HD := Lib.hid hdef
    clear hdef
    generalize fol h 0 (src h x) (x :: l) = R at *
    obtain ⟨R1, R2, R3⟩ := R
    cases R3
    · go_wp2_with fail
      go_ret
      exact ⟨ret_bool (by rw [HD.out]; simp), HB2.out⟩
    · by_cases h2 : R2 = src h x
      · have h2' : (R2 == src h x) = true := by simpa using h2
        go_wp2_with fail
        go_ret
        exact ⟨ret_bool (by rw [HD.out]; simp [h2]), HB2.out⟩
      · have h2' : (R2 == src h x) = false := by simpa using h2
        go_wp2_with fail
        go_ret
        exact ⟨ret_bool (by rw [HD.out]; simp [h2]), HB2.out⟩

set_option maxHeartbeats 1000000 in
theorem checkWayR_any (h : Hall) (sv lv : Value) (f t : Int) (l : List Stp) (w : World) (hs : IsCnts w sv h.cs) (hv : IsStps w lv l) :
    Calls Try.prog 29 #[.agg #[.int .i64 h.n, .int .i64 h.most, sv], .int .i64 f, .int .i64 t, lv] w fun e w' =>
      e = .returned (.tuple #[.int .i64 (wayE h f t l).1, .int .i64 (wayE h f t l).2]) ∧ Ext w w' := by
  obtain ⟨ca, ccap, rfl, hm1, hm2, -⟩ := hs.spec
  obtain ⟨sa, cap, rfl, hl1, hl2, -⟩ := hv.spec
  have HS := Lib.hid hs
  have HV := Lib.hid hv
  clear hs hv
  go_enter Try.func29, Try.ntmps29
  go_wp2_with fail
  refine (places_any h (.slice ca h.cs.length ccap) f t _ (HS.out.ext (by repeat (first | exact Below.refl _ _ | refine Ext.al ?_ _ | refine Ext.dr ?_ | refine Ext.drN ?_ _ | refine Ext.gr ?_ _ | refine Ext.set ?_ (by simp) _ | (refine Ext.trans' ?_ (by assumption)))))).mono ?_
  rintro e W1 ⟨rfl, hb1⟩
  have k0 := cell_ext hb1 (a := ⟨w.heap.size, 0, none⟩) (v := .int .i64 h.n) (by simp [go_sem])
  have k1 := cell_ext hb1 (a := ⟨w.heap.size, 1, none⟩) (v := .int .i64 h.most) (by simp [go_sem])
  have k2 := cell_ext hb1 (a := ⟨w.heap.size, 2, none⟩) (v := .slice ca h.cs.length ccap) (by simp [go_sem])
  have hE1 : Ext w W1 := Ext.trans' (by repeat (first | exact Below.refl _ _ | refine Ext.al ?_ _ | refine Ext.dr ?_ | refine Ext.drN ?_ _ | refine Ext.gr ?_ _ | refine Ext.set ?_ (by simp) _ | (refine Ext.trans' ?_ (by assumption)))) hb1
  have HE1 := Lib.hid hE1
  clear hb1 hE1
  by_cases ho : openE h [f, t] = 0
  · have ho' : (openE h [f, t] == 0) = true := by simpa using ho
    have hc : chk h = 0 := by
      unfold openE at ho
      by_cases e : chk h = 0
      · exact e
      · simp [e] at ho
    have V := Lib.hid (valid_of_chk hc)
    go_wp2_with fail
    refine (isWay_any h (.slice ca h.cs.length ccap) (.slice sa l.length cap) l _ (HS.out.ext HE1.out) (HV.out.ext HE1.out)).mono ?_
    rintro e W2 ⟨rfl, hb2⟩
    replace k0 := cell_ext hb2 k0
    replace k1 := cell_ext hb2 k1
    replace k2 := cell_ext hb2 k2
    have HE2 := Lib.hid (HE1.out.trans' hb2)
    clear hb2
    by_cases hw : isWayE h l = 0
    · have hw' : (isWayE h l == 0) = true := by simpa using hw
      have h200 : ¬ 200 < l.length := by
        intro hh
        simp [isWayE, hh] at hw
      have hodd : l.any (oddS h) = false := by
        cases hh : l.any (oddS h)
        · rfl
        · simp only [isWayE, if_neg h200, hh] at hw; simp at hw
      have HO := Lib.hid (any_odd hodd)
      go_wp2_with fail
      refine (followed_any h (.slice ca h.cs.length ccap) (.slice sa l.length cap) f l V.out HO.out (by omega) _ (HS.out.ext HE2.out) (HV.out.ext HE2.out)).mono ?_
      rintro e W3 ⟨rfl, hb3⟩
      have HE3 := Lib.hid (HE2.out.trans' hb3)
      clear hb3
      have hdef : wayE h f t l = if (fol h 0 f l).2.2 = true ∧ (fol h 0 f l).2.1 = t then ((fol h 0 f l).1, 0) else (0, 16) := by
        simp only [wayE, ho, h200, hodd]; simp
      have HD := Lib.hid hdef
      clear hdef
      generalize fol h 0 f l = R at *
      obtain ⟨R1, R2, R3⟩ := R
      cases R3
      · go_wp2_with fail
        refine bodyPost_ret (v := .tuple #[.int .i64 0, .int .i64 16]) (by simp [results, Try.results29, go_sem]) rfl ?_
        exact ⟨by rw [HD.out]; simp, HE3.out⟩
      · by_cases h2 : R2 = t
        · have h2' : (R2 == t) = true := by simpa using h2
          go_wp2_with fail
          refine bodyPost_ret (v := .tuple #[.int .i64 R1, .int .i64 0]) (by simp [results, Try.results29, go_sem]) rfl ?_
          exact ⟨by rw [HD.out]; simp [h2], HE3.out⟩
        · have h2' : (R2 == t) = false := by simpa using h2
          go_wp2_with fail
          refine bodyPost_ret (v := .tuple #[.int .i64 0, .int .i64 16]) (by simp [results, Try.results29, go_sem]) rfl ?_
          exact ⟨by rw [HD.out]; simp [h2], HE3.out⟩
    · have hw' : (isWayE h l == 0) = false := by simpa using hw
      go_wp2_with fail
      refine (isWay_any h (.slice ca h.cs.length ccap) (.slice sa l.length cap) l _ (HS.out.ext HE2.out) (HV.out.ext HE2.out)).mono ?_
      rintro e W3 ⟨rfl, hb3⟩
      go_wp2_with fail
      refine bodyPost_ret (v := .tuple #[.int .i64 0, .int .i64 (isWayE h l)]) (by simp [results, Try.results29, go_sem]) rfl ?_
      have e : wayE h f t l = (0, isWayE h l) := by
        unfold wayE isWayE at *
        simp only [ho]
        by_cases h200 : 200 < l.length
        · simp [h200]
        · simp only [if_neg h200] at hw ⊢
          cases hh : l.any (oddS h)
          · simp [hh] at hw
          · simp
      exact ⟨ret_ii (by rw [e]) (by rw [e]), HE2.out.trans' hb3⟩
  · have ho' : (openE h [f, t] == 0) = false := by simpa using ho
    go_wp2_with fail
    refine (places_any h (.slice ca h.cs.length ccap) f t _ (HS.out.ext HE1.out)).mono ?_
    rintro e W2 ⟨rfl, hb2⟩
    go_wp2_with fail
    refine bodyPost_ret (v := .tuple #[.int .i64 0, .int .i64 (openE h [f, t])]) (by simp [results, Try.results29, go_sem]) rfl ?_
    exact ⟨ret_ii (by simp [wayE, ho]) (by simp [wayE, ho]), HE1.out.trans' hb2⟩

theorem sum_drop_take (t : List Int) (f k : Nat) (hk : k < t.length) (hf : f ≤ k) : ((t.drop f).take (k + 1 - f)).sum = ((t.drop f).take (k - f)).sum + t[k] := by
  have e : k + 1 - f = (k - f) + 1 := by omega
  have hl : k - f < (t.drop f).length := by simp; omega
  rw [e, sum_take_succ _ _ hl]
  congr 1
  simp
  congr 1
  omega

set_option maxHeartbeats 1000000 in
theorem sum_any (t : List Int) (tv : Value) (f g : Nat) (hfg : f ≤ g) (hg : g < t.length) (m : Int) (hm0 : 0 ≤ m) (hm : m ≤ 1000000000000) (h10 : t.length ≤ 1000) (ht : ∀ x ∈ t, 0 ≤ x ∧ x ≤ m) (w : World) (hv : IsInts w .i64 tv t) :
    Calls Try.prog 47 #[tv, .int .i64 f, .int .i64 g] w fun e w' => e = .returned (.int .i64 (sm t f g)) ∧ Ext w w' := by
  obtain ⟨ta, tcap, rfl, hm1, hm2, hv3⟩ := hv.spec
  have HT := Lib.hid ht
  rcases hv3 with e | ⟨b, off, rfl, hc⟩
  · simp [e] at hg
  have HC := Lib.hid hc
  clear hv hc ht
  go_enter Try.func47, Try.ntmps47
  go_wp2_with fail
  go_loopw [7, 8] (fun s i W => ∃ k : Nat, f ≤ k ∧ k ≤ g + 1 ∧ i = .int .i64 k ∧ s = .int .i64 ((t.drop f).take (k - f)).sum ∧ Ext w W) (fun _ i _ => g + 1 - (intOf i).toNat)
  case atStart => exact ⟨f, Nat.le_refl _, by omega, rfl, by simp, Below.refl _ _⟩
  case round =>
    obtain ⟨k, hk1, hk2, rfl, rfl, hb⟩ := hrel
    have hbd := sum_bd ((t.drop f).take (k - f)) m fun x hx => HT.out x (List.mem_of_mem_drop (List.mem_of_mem_take hx))
    obtain ⟨b1, b2⟩ := hbd
    have hlen : ((t.drop f).take (k - f)).length ≤ 1000 := by simp; omega
    have b3 : m * ((t.drop f).take (k - f)).length ≤ 1000000000000 * 1000 := Int.mul_le_mul hm (by omega) (by omega) (by omega)
    have b4 : ((t.drop f).take (k - f)).sum ≤ 1000000000000000 := by omega
    clear b2 b3 hlen
    by_cases hlt : k < g + 1
    · have hkl : k < t.length := by omega
      have hck := cell_ext hb (HC.out k hkl)
      have hx := HT.out t[k] (List.getElem_mem hkl)
      obtain ⟨x1, x2⟩ := hx
      have HB := Lib.hid hb
      clear hb
      go_wp2_with fail
      go_roundw
      case rel => exact ⟨k + 1, by omega, by omega, by go_num, by rw [sum_drop_take t f k hkl hk1], HB.out⟩
      case measure => simp [intOf]; omega
    · obtain rfl : k = g + 1 := by omega
      go_wp2_with fail
      go_ret
      exact ⟨ret_int (by unfold sm; congr 2; omega), hb⟩
end Go.Proofs.Ytgcldgchhdjnhaa
namespace Go.Proofs.Ytgcldgchhdjnhaa
open Go.RowKit Go.Shelf

set_option maxHeartbeats 2000000 in
theorem checkTruthR_any (h : Hall) (sv tv : Value) (t : List Int) (w : World) (hs : IsCnts w sv h.cs) (ht : IsInts w .i64 tv t) :
    Calls Try.prog 23 #[.agg #[.int .i64 h.n, .int .i64 h.most, sv], tv] w fun e w' => e = .returned (.int .i64 (truthE h t)) ∧ Ext w w' := by
  obtain ⟨sa, cap, rfl, hl1, hl2, -⟩ := hs.spec
  obtain ⟨ta, tcap, rfl, hm1, hm2, -⟩ := ht.spec
  have HS := Lib.hid hs
  have HT := Lib.hid ht
  clear hs ht
  go_enter Try.func23, Try.ntmps23
  go_wp2_with fail
  refine (checkHallR_any h (.slice sa h.cs.length cap) _ (HS.out.ext (by repeat (first | exact Below.refl _ _ | refine Ext.al ?_ _ | refine Ext.dr ?_ | refine Ext.drN ?_ _ | refine Ext.gr ?_ _ | refine Ext.set ?_ (by simp) _ | (refine Ext.trans' ?_ (by assumption)))))).mono ?_
  rintro e W1 ⟨rfl, hb1⟩
  have k0 := cell_ext hb1 (a := ⟨w.heap.size, 0, none⟩) (v := .int .i64 h.n) (by simp [go_sem])
  have k1 := cell_ext hb1 (a := ⟨w.heap.size, 1, none⟩) (v := .int .i64 h.most) (by simp [go_sem])
  have k2 := cell_ext hb1 (a := ⟨w.heap.size, 2, none⟩) (v := .slice sa h.cs.length cap) (by simp [go_sem])
  have hE1 : Ext w W1 := (by repeat (first | exact Below.refl _ _ | refine Ext.al ?_ _ | refine Ext.dr ?_ | refine Ext.drN ?_ _ | refine Ext.gr ?_ _ | refine Ext.set ?_ (by simp) _ | (refine Ext.trans' ?_ (by assumption))))
  have HE1 := Lib.hid hE1
  clear hb1 hE1
  by_cases hc : chk h = 0
  rotate_left
  · have hc' : (chk h == 0) = false := by simpa using hc
    go_wp2_with fail
    refine (checkHallR_any h (.slice sa h.cs.length cap) _ (HS.out.ext HE1.out)).mono ?_
    rintro e W2 ⟨rfl, hb2⟩
    go_wp2_with fail
    go_ret
    exact ⟨ret_int (by simp [truthE, hc]), HE1.out.trans' hb2⟩
  have hc' : (chk h == 0) = true := by simpa using hc
  have v := valid_of_chk hc
  have n1 := v.n1
  have n10 := v.n10
  have m0 := v.m0
  have m1 := v.m1
  have V := Lib.hid v
  clear v
  by_cases hlen : (t.length : Int) = h.n
  rotate_left
  · have hl' : ((t.length : Int) == h.n) = false := by simpa using hlen
    go_wp2_with fail
    go_ret
    exact ⟨ret_int (by simp [truthE, hc, hlen]), HE1.out⟩
  have hl' : ((t.length : Int) == h.n) = true := by simpa using hlen
  have htl : t.length ≤ 10 := by omega
  go_wp2_with fail
  have HLEN := Lib.hid hlen
  clear hlen hl'
  have K1 := Lib.hid k1
  have K2 := Lib.hid k2
  clear k0 k1 k2
  go_loopw [5] (fun i W => ∃ k : Nat, k ≤ t.length ∧ i = .int .i64 k ∧ (∀ x ∈ t.take k, inR 0 h.most x = true) ∧ Ext W1 W) (fun i _ => t.length - (intOf i).toNat)
  case atStart => exact ⟨0, Nat.zero_le _, rfl, by simp, Below.refl _ _⟩
  case round =>
    obtain ⟨k, hk, rfl, hno, hb⟩ := hrel
    have HN := Lib.hid hno
    clear hno
    by_cases hlt : k < t.length
    · rcases (HT.out.ext (HE1.out.trans' hb)).spec with ⟨ta', tcap', te, _, _, ht3⟩
      cases te
      rcases ht3 with e | ⟨tb, toff, rfl, htc⟩
      · simp [e] at hlt
      have hck := htc k hlt
      have k1 := cell_ext hb K1.out
      have HB := Lib.hid hb
      clear htc hb
      by_cases h1 : t[k] < 0
      · have h1' : decide (t[k] < 0) = true := by simpa using h1
        go_wp2_with fail
        go_quiet (fail)
        go_wp2_with fail
        go_ret
        refine ⟨ret_int ?_, Ext.trans' HE1.out (HB.out.trans' (by repeat (first | exact Below.refl _ _ | refine Ext.al ?_ _ | refine Ext.dr ?_ | refine Ext.drN ?_ _ | refine Ext.gr ?_ _ | refine Ext.set ?_ (by simp) _ | (refine Ext.trans' ?_ (by assumption)))))⟩
        have : t.all (inR 0 h.most) = false := by
          rw [List.all_eq_false]; exact ⟨t[k], List.getElem_mem hlt, by simp [inR]; omega⟩
        simp [truthE, hc, HLEN.out, this]
      · have h1' : decide (t[k] < 0) = false := by simpa using h1
        by_cases h2 : h.most < t[k]
        · have h2' : decide (h.most < t[k]) = true := by simpa using h2
          go_wp2_with fail
          go_quiet (fail)
          go_wp2_with fail
          go_ret
          refine ⟨ret_int ?_, Ext.trans' HE1.out (HB.out.trans' (by repeat (first | exact Below.refl _ _ | refine Ext.al ?_ _ | refine Ext.dr ?_ | refine Ext.drN ?_ _ | refine Ext.gr ?_ _ | refine Ext.set ?_ (by simp) _ | (refine Ext.trans' ?_ (by assumption)))))⟩
          have : t.all (inR 0 h.most) = false := by
            rw [List.all_eq_false]; exact ⟨t[k], List.getElem_mem hlt, by simp [inR]; omega⟩
          simp [truthE, hc, HLEN.out, this]
        · have h2' : decide (h.most < t[k]) = false := by simpa using h2
          go_wp2_with fail
          go_quiet (fail)
          go_wp2_with fail
          go_roundw
          case rel =>
            refine ⟨k + 1, by omega, by go_num, fun x hx => ?_, HB.out.trans' (by repeat (first | exact Below.refl _ _ | refine Ext.al ?_ _ | refine Ext.dr ?_ | refine Ext.drN ?_ _ | refine Ext.gr ?_ _ | refine Ext.set ?_ (by simp) _ | (refine Ext.trans' ?_ (by assumption))))⟩
            rw [List.take_succ_eq_append_getElem hlt, List.mem_append] at hx
            rcases hx with hx | hx
            · exact HN.out x hx
            · simp at hx
              rw [hx]; simp [inR]; omega
          case measure => simp [intOf]; omega
    · obtain rfl : k = t.length := by omega
      have hall : t.all (inR 0 h.most) = true := by
        have := HN.out
        rw [List.take_length] at this
        rw [List.all_eq_true]; exact this
      have hall' : ∀ x ∈ t, 0 ≤ x ∧ x ≤ h.most := fun x hx => by
        have := List.all_eq_true.1 hall x hx
        simp [inR] at this
        omega
      have HA := Lib.hid hall'
      have HALL := Lib.hid hall
      have K2b := Lib.hid (cell_ext hb K2.out)
      have HE2 := Lib.hid (HE1.out.trans' hb)
      clear hall hall' HN hb K2 K1
      obtain ⟨w1, rfl⟩ : ∃ w1 : World, w1 = wr := ⟨_, rfl⟩
      have k2 := K2b.out
      go_wp2_with fail
      clear k2
      go_loopw [6] (fun i W => ∃ k : Nat, k ≤ h.cs.length ∧ i = .int .i64 k ∧ (∀ c ∈ h.cs.take k, offC t c = false) ∧ Ext w1 W) (fun i _ => h.cs.length - (intOf i).toNat)
      case atStart => exact ⟨0, Nat.zero_le _, rfl, by simp, Below.refl _ _⟩
      case round =>
        obtain ⟨k, hk, rfl, hno, hb⟩ := hrel
        have HN := Lib.hid hno
        have HB := Lib.hid hb
        have HX := Lib.hid (HE2.out.trans' hb)
        have k2 := cell_ext hb K2b.out
        clear hno hb
        by_cases hlt : k < h.cs.length
        · rcases (HS.out.ext HX.out).opened with e | ⟨cb, coff, rfl, hcc⟩
          · simp [e] at hlt
          obtain ⟨c0, c1, c2, c3⟩ := hcc k hlt
          clear hcc
          have hcv := V.out.cs h.cs[k] (List.getElem_mem hlt)
          obtain ⟨f, hf⟩ : ∃ f : Nat, h.cs[k].f = f := ⟨h.cs[k].f.toNat, by omega⟩
          obtain ⟨g, hg⟩ : ∃ g : Nat, h.cs[k].t = g := ⟨h.cs[k].t.toNat, by omega⟩
          have HF := Lib.hid hf
          have HG := Lib.hid hg
          have hfg : f ≤ g := by omega
          have hgl : g < t.length := by have := HLEN.out; omega
          rw [hf] at c0
          rw [hg] at c1
          clear hf hg hcv
          go_wp2_with fail
          refine (sum_any t (.slice ta t.length tcap) f g hfg hgl h.most m0 (by omega) (by omega) HA.out _ ((HT.out.ext HX.out).ext (by repeat (first | exact Below.refl _ _ | refine Ext.al ?_ _ | refine Ext.dr ?_ | refine Ext.drN ?_ _ | refine Ext.gr ?_ _ | refine Ext.set ?_ (by simp) _ | (refine Ext.trans' ?_ (by assumption)))))).mono ?_
          rintro e W4 ⟨rfl, hb4⟩
          have d2 := cell_ext hb4 (a := ⟨wr.heap.size, 2, none⟩) (v := .int .i64 h.cs[k].lo) (by simp [go_sem])
          have d3 := cell_ext hb4 (a := ⟨wr.heap.size, 3, none⟩) (v := .int .i64 h.cs[k].hi) (by simp [go_sem])
          have hE4 : Ext wr W4 := Ext.trans' (by repeat (first | exact Below.refl _ _ | refine Ext.al ?_ _ | refine Ext.dr ?_ | refine Ext.drN ?_ _ | refine Ext.gr ?_ _ | refine Ext.set ?_ (by simp) _ | (refine Ext.trans' ?_ (by assumption)))) hb4
          have HE4 := Lib.hid hE4
          have hof : offC t h.cs[k] = !(inR h.cs[k].lo h.cs[k].hi (sm t f g)) := by unfold offC; rw [HF.out, HG.out]
          have HOF := Lib.hid hof
          clear hb4 hE4 hof c0 c1 c2 c3
          by_cases h1 : sm t f g < h.cs[k].lo
          · have h1' : decide (sm t f g < h.cs[k].lo) = true := by simpa using h1
            have hp : offC t h.cs[k] = true := by rw [HOF.out]; simp [inR]; omega
            have HP := Lib.hid hp
            clear hp
            go_wp2_with fail
            go_ret
            exact ⟨ret_int (by simp only [truthE, hc, HLEN.out, HALL.out, any_of_at hlt HP.out]; simp), HX.out.trans' HE4.out⟩
          · have h1' : decide (sm t f g < h.cs[k].lo) = false := by simpa using h1
            by_cases h2 : h.cs[k].hi < sm t f g
            · have h2' : decide (h.cs[k].hi < sm t f g) = true := by simpa using h2
              have hp : offC t h.cs[k] = true := by rw [HOF.out]; simp [inR]; omega
              have HP := Lib.hid hp
              clear hp
              go_wp2_with fail
              go_ret
              exact ⟨ret_int (by simp only [truthE, hc, HLEN.out, HALL.out, any_of_at hlt HP.out]; simp), HX.out.trans' HE4.out⟩
            · have h2' : decide (h.cs[k].hi < sm t f g) = false := by simpa using h2
              have hp : offC t h.cs[k] = false := by rw [HOF.out]; simp [inR]; omega
              have HP := Lib.hid hp
              clear hp
              go_wp2_with fail
              go_roundw
              case rel => exact ⟨k + 1, by omega, by go_num, take_ext hlt HN.out HP.out, HB.out.trans' HE4.out⟩
              case measure => simp [intOf]; omega
        · go_wp2_with fail
          go_ret
          exact ⟨ret_int (by simp [truthE, hc, HLEN.out, HALL.out, any_of_none (take_all hlt HN.out)]), HX.out⟩
end Go.Proofs.Ytgcldgchhdjnhaa
