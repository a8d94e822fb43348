/-
  The walk of the reference's CheckTruth.
-/
import Derived.Test.YtgcldgchhdjnhaaWayCR
namespace Go.Proofs.Ytgcldgchhdjnhaa
open Go.RowKit Go.Shelf

set_option maxHeartbeats 2000000 in
theorem checkTruthR_any (h : Hall) (sv tv : Value) (t : List Int) (w : World) (hs : IsCnts w sv h.cs) (ht : IsInts w .i64 tv t) :
    Calls Try.prog 23 #[.agg #[.int .i64 h.n, .int .i64 h.most, sv], tv] w fun e w' => e = .returned (.int .i64 (truthE h t)) ∧ Ext w w' := by
  obtain ⟨sa, cap, rfl, hl1, hl2, -⟩ := hs.spec
  obtain ⟨ta, tcap, rfl, hm1, hm2, -⟩ := ht.spec
  have HS := Lib.hid hs
  have HT := Lib.hid ht
  clear hs ht
  go_enter Try.func23, Try.ntmps23
  go_wp2_with fail
  refine (checkHallR_any h (.slice sa h.cs.length cap) _ (HS.out.ext (by repeat (first | exact Below.refl _ _ | refine Ext.al ?_ _ | refine Ext.dr ?_ | refine Ext.drN ?_ _ | refine Ext.gr ?_ _ | refine Ext.set ?_ (by simp) _ | (refine Ext.trans' ?_ (by assumption)))))).mono ?_
  rintro e W1 ⟨rfl, hb1⟩
  have k0 := cell_ext hb1 (a := ⟨w.heap.size, 0, none⟩) (v := .int .i64 h.n) (by simp [go_sem])
  have k1 := cell_ext hb1 (a := ⟨w.heap.size, 1, none⟩) (v := .int .i64 h.most) (by simp [go_sem])
  have k2 := cell_ext hb1 (a := ⟨w.heap.size, 2, none⟩) (v := .slice sa h.cs.length cap) (by simp [go_sem])
  have hE1 : Ext w W1 := (by repeat (first | exact Below.refl _ _ | refine Ext.al ?_ _ | refine Ext.dr ?_ | refine Ext.drN ?_ _ | refine Ext.gr ?_ _ | refine Ext.set ?_ (by simp) _ | (refine Ext.trans' ?_ (by assumption))))
  have HE1 := Lib.hid hE1
  clear hb1 hE1
  by_cases hc : chk h = 0
  rotate_left
  · have hc' : (chk h == 0) = false := by simpa using hc
    go_wp2_with fail
    refine (checkHallR_any h (.slice sa h.cs.length cap) _ (HS.out.ext HE1.out)).mono ?_
    rintro e W2 ⟨rfl, hb2⟩
    go_wp2_with fail
    go_ret
    exact ⟨ret_int (by simp [truthE, hc]), HE1.out.trans' hb2⟩
  have hc' : (chk h == 0) = true := by simpa using hc
  have v := valid_of_chk hc
  have n1 := v.n1
  have n10 := v.n10
  have m0 := v.m0
  have m1 := v.m1
  have V := Lib.hid v
  clear v
  by_cases hlen : (t.length : Int) = h.n
  rotate_left
  · have hl' : ((t.length : Int) == h.n) = false := by simpa using hlen
    go_wp2_with fail
    go_ret
    exact ⟨ret_int (by simp [truthE, hc, hlen]), HE1.out⟩
  have hl' : ((t.length : Int) == h.n) = true := by simpa using hlen
  have htl : t.length ≤ 10 := by omega
  go_wp2_with fail
  have HLEN := Lib.hid hlen
  clear hlen hl'
  have K1 := Lib.hid k1
  have K2 := Lib.hid k2
  clear k0 k1 k2
  go_loopw [5] (fun i W => ∃ k : Nat, k ≤ t.length ∧ i = .int .i64 k ∧ (∀ x ∈ t.take k, inR 0 h.most x = true) ∧ Ext W1 W) (fun i _ => t.length - (intOf i).toNat)
  case atStart => exact ⟨0, Nat.zero_le _, rfl, by simp, Below.refl _ _⟩
  case round =>
    obtain ⟨k, hk, rfl, hno, hb⟩ := hrel
    have HN := Lib.hid hno
    clear hno
    by_cases hlt : k < t.length
    · rcases (HT.out.ext (HE1.out.trans' hb)).spec with ⟨ta', tcap', te, _, _, ht3⟩
      cases te
      rcases ht3 with e | ⟨tb, toff, rfl, htc⟩
      · simp [e] at hlt
      have hck := htc k hlt
      have k1 := cell_ext hb K1.out
      have HB := Lib.hid hb
      clear htc hb
      by_cases h1 : t[k] < 0
      · have h1' : decide (t[k] < 0) = true := by simpa using h1
        go_wp2_with fail
        go_quiet (fail)
        go_wp2_with fail
        go_ret
        refine ⟨ret_int ?_, Ext.trans' HE1.out (HB.out.trans' (by repeat (first | exact Below.refl _ _ | refine Ext.al ?_ _ | refine Ext.dr ?_ | refine Ext.drN ?_ _ | refine Ext.gr ?_ _ | refine Ext.set ?_ (by simp) _ | (refine Ext.trans' ?_ (by assumption)))))⟩
        have : t.all (inR 0 h.most) = false := by
          rw [List.all_eq_false]; exact ⟨t[k], List.getElem_mem hlt, by simp [inR]; omega⟩
        simp [truthE, hc, HLEN.out, this]
      · have h1' : decide (t[k] < 0) = false := by simpa using h1
        by_cases h2 : h.most < t[k]
        · have h2' : decide (h.most < t[k]) = true := by simpa using h2
          go_wp2_with fail
          go_quiet (fail)
          go_wp2_with fail
          go_ret
          refine ⟨ret_int ?_, Ext.trans' HE1.out (HB.out.trans' (by repeat (first | exact Below.refl _ _ | refine Ext.al ?_ _ | refine Ext.dr ?_ | refine Ext.drN ?_ _ | refine Ext.gr ?_ _ | refine Ext.set ?_ (by simp) _ | (refine Ext.trans' ?_ (by assumption)))))⟩
          have : t.all (inR 0 h.most) = false := by
            rw [List.all_eq_false]; exact ⟨t[k], List.getElem_mem hlt, by simp [inR]; omega⟩
          simp [truthE, hc, HLEN.out, this]
        · have h2' : decide (h.most < t[k]) = false := by simpa using h2
          go_wp2_with fail
          go_quiet (fail)
          go_wp2_with fail
          go_roundw
          case rel =>
            refine ⟨k + 1, by omega, by go_num, fun x hx => ?_, HB.out.trans' (by repeat (first | exact Below.refl _ _ | refine Ext.al ?_ _ | refine Ext.dr ?_ | refine Ext.drN ?_ _ | refine Ext.gr ?_ _ | refine Ext.set ?_ (by simp) _ | (refine Ext.trans' ?_ (by assumption))))⟩
            rw [List.take_succ_eq_append_getElem hlt, List.mem_append] at hx
            rcases hx with hx | hx
            · exact HN.out x hx
            · simp at hx
              rw [hx]; simp [inR]; omega
          case measure => simp [intOf]; omega
    · obtain rfl : k = t.length := by omega
      have hall : t.all (inR 0 h.most) = true := by
        have := HN.out
        rw [List.take_length] at this
        rw [List.all_eq_true]; exact this
      have hall' : ∀ x ∈ t, 0 ≤ x ∧ x ≤ h.most := fun x hx => by
        have := List.all_eq_true.1 hall x hx
        simp [inR] at this
        omega
      have HA := Lib.hid hall'
      have HALL := Lib.hid hall
      have K2b := Lib.hid (cell_ext hb K2.out)
      have HE2 := Lib.hid (HE1.out.trans' hb)
      clear hall hall' HN hb K2 K1
      obtain ⟨w1, rfl⟩ : ∃ w1 : World, w1 = wr := ⟨_, rfl⟩
      have k2 := K2b.out
      go_wp2_with fail
      clear k2
      go_loopw [6] (fun i W => ∃ k : Nat, k ≤ h.cs.length ∧ i = .int .i64 k ∧ (∀ c ∈ h.cs.take k, offC t c = false) ∧ Ext w1 W) (fun i _ => h.cs.length - (intOf i).toNat)
      case atStart => exact ⟨0, Nat.zero_le _, rfl, by simp, Below.refl _ _⟩
      case round =>
        obtain ⟨k, hk, rfl, hno, hb⟩ := hrel
        have HN := Lib.hid hno
        have HB := Lib.hid hb
        have HX := Lib.hid (HE2.out.trans' hb)
        have k2 := cell_ext hb K2b.out
        clear hno hb
        by_cases hlt : k < h.cs.length
        · rcases (HS.out.ext HX.out).opened with e | ⟨cb, coff, rfl, hcc⟩
          · simp [e] at hlt
          obtain ⟨c0, c1, c2, c3⟩ := hcc k hlt
          clear hcc
          have hcv := V.out.cs h.cs[k] (List.getElem_mem hlt)
          obtain ⟨f, hf⟩ : ∃ f : Nat, h.cs[k].f = f := ⟨h.cs[k].f.toNat, by omega⟩
          obtain ⟨g, hg⟩ : ∃ g : Nat, h.cs[k].t = g := ⟨h.cs[k].t.toNat, by omega⟩
          have HF := Lib.hid hf
          have HG := Lib.hid hg
          have hfg : f ≤ g := by omega
          have hgl : g < t.length := by have := HLEN.out; omega
          rw [hf] at c0
          rw [hg] at c1
          clear hf hg hcv
          go_wp2_with fail
          refine (sum_any t (.slice ta t.length tcap) f g hfg hgl h.most m0 (by omega) (by omega) HA.out _ ((HT.out.ext HX.out).ext (by repeat (first | exact Below.refl _ _ | refine Ext.al ?_ _ | refine Ext.dr ?_ | refine Ext.drN ?_ _ | refine Ext.gr ?_ _ | refine Ext.set ?_ (by simp) _ | (refine Ext.trans' ?_ (by assumption)))))).mono ?_
          rintro e W4 ⟨rfl, hb4⟩
          have d2 := cell_ext hb4 (a := ⟨wr.heap.size, 2, none⟩) (v := .int .i64 h.cs[k].lo) (by simp [go_sem])
          have d3 := cell_ext hb4 (a := ⟨wr.heap.size, 3, none⟩) (v := .int .i64 h.cs[k].hi) (by simp [go_sem])
          have hE4 : Ext wr W4 := Ext.trans' (by repeat (first | exact Below.refl _ _ | refine Ext.al ?_ _ | refine Ext.dr ?_ | refine Ext.drN ?_ _ | refine Ext.gr ?_ _ | refine Ext.set ?_ (by simp) _ | (refine Ext.trans' ?_ (by assumption)))) hb4
          have HE4 := Lib.hid hE4
          have hof : offC t h.cs[k] = !(inR h.cs[k].lo h.cs[k].hi (sm t f g)) := by unfold offC; rw [HF.out, HG.out]
          have HOF := Lib.hid hof
          clear hb4 hE4 hof c0 c1 c2 c3
          by_cases h1 : sm t f g < h.cs[k].lo
          · have h1' : decide (sm t f g < h.cs[k].lo) = true := by simpa using h1
            have hp : offC t h.cs[k] = true := by rw [HOF.out]; simp [inR]; omega
            have HP := Lib.hid hp
            clear hp
            go_wp2_with fail
            go_ret
            exact ⟨ret_int (by simp only [truthE, hc, HLEN.out, HALL.out, any_of_at hlt HP.out]; simp), HX.out.trans' HE4.out⟩
          · have h1' : decide (sm t f g < h.cs[k].lo) = false := by simpa using h1
            by_cases h2 : h.cs[k].hi < sm t f g
            · have h2' : decide (h.cs[k].hi < sm t f g) = true := by simpa using h2
              have hp : offC t h.cs[k] = true := by rw [HOF.out]; simp [inR]; omega
              have HP := Lib.hid hp
              clear hp
              go_wp2_with fail
              go_ret
              exact ⟨ret_int (by simp only [truthE, hc, HLEN.out, HALL.out, any_of_at hlt HP.out]; simp), HX.out.trans' HE4.out⟩
            · have h2' : decide (h.cs[k].hi < sm t f g) = false := by simpa using h2
              have hp : offC t h.cs[k] = false := by rw [HOF.out]; simp [inR]; omega
              have HP := Lib.hid hp
              clear hp
              go_wp2_with fail
              go_roundw
              case rel => exact ⟨k + 1, by omega, by go_num, take_ext hlt HN.out HP.out, HB.out.trans' HE4.out⟩
              case measure => simp [intOf]; omega
        · go_wp2_with fail
          go_ret
          exact ⟨ret_int (by simp [truthE, hc, HLEN.out, HALL.out, any_of_none (take_all hlt HN.out)]), HX.out⟩
end Go.Proofs.Ytgcldgchhdjnhaa
