/-
  The walks of the reference's IsStep, Ends, Followed, IsWay, Places, IsRing and CheckWay.
-/
import Derived.Test.YtgcldgchhdjnhaaOpen
import Derived.Test.YtgcldgchhdjnhaaFollow
namespace Go.Proofs.Ytgcldgchhdjnhaa
open Go.RowKit Go.Shelf

set_option maxHeartbeats 1000000 in
theorem isStepR_any (h : Hall) (sv : Value) (x : Stp) (w : World) (hs : IsCnts w sv h.cs) :
    Calls Try.prog 102 #[.agg #[.int .i64 h.n, .int .i64 h.most, sv], .agg #[.bool x.win, .int .i64 x.idx, .bool x.back]] w fun e w' => e = .returned (.bool (okStp h x)) ∧ Ext w w' := by
  obtain ⟨sa, cap, rfl, hl1, hl2, -⟩ := hs.spec
  clear hs
  obtain ⟨xw, xi, xb⟩ := x
  cases xw
  all_goals
    go_enter Try.func102, Try.ntmps102
    go_wp2
    all_goals
      go_ret
      exact ⟨ret_bool (by simp [okStp]; try omega), (by repeat (first | exact Below.refl _ _ | refine Ext.al ?_ _ | refine Ext.dr ?_ | refine Ext.drN ?_ _ | refine Ext.gr ?_ _ | refine Ext.set ?_ (by simp) _ | (refine Ext.trans' ?_ (by assumption))))⟩

set_option maxHeartbeats 1000000 in
theorem endsR_any (h : Hall) (sv : Value) (x : Stp) (w : World) (v : Valid h) (o : okStp h x = true) (hs : IsCnts w sv h.cs) :
    Calls Try.prog 78 #[.agg #[.int .i64 h.n, .int .i64 h.most, sv], .agg #[.bool x.win, .int .i64 x.idx, .bool x.back]] w fun e w' =>
      e = .returned (.tuple #[.int .i64 (src h x), .int .i64 (dst h x), .int .i64 (cost h x)]) ∧ Ext w w' := by
  have hv := stpC_ok v o
  have n10 := v.n10
  obtain ⟨xw, xi, xb⟩ := x
  cases xw
  · simp [okStp] at o
    obtain ⟨o1, o2⟩ := o
    obtain ⟨k, rfl⟩ : ∃ k : Nat, xi = k := ⟨xi.toNat, by omega⟩
    have hk : k < h.cs.length := by omega
    obtain ⟨sa, cap, rfl, hl1, hl2, hl3⟩ := hs.spec
    rcases hl3 with e | ⟨sb, off, rfl, hc⟩
    · simp [e] at hk
    obtain ⟨a0, a1, a2, a3⟩ := hc k hk
    have hsb : sb < w.heap.size := World.block_lt_of_cell? _ _ a0
    have e : stpC h ⟨false, (k : Int), xb⟩ = h.cs[k] := by simp [stpC, List.getD, hk]
    rw [e] at hv
    have hm0 := v.m0
    have hm1 := v.m1
    obtain ⟨v1, v2, v3, v4, v5, v6⟩ := hv
    have E := Lib.hid e
    clear e hs hc v
    cases xb
    all_goals
      go_enter Try.func78, Try.ntmps78
      go_wp2_with fail
      go_quiet (fail)
      go_wp2_with fail
      go_quiet (fail)
      go_wp2_with fail
      go_ret3
      exact ⟨ret_iii (by simp [src, E.out]) (by simp [dst, E.out]) (by simp [cost, E.out]), (by repeat (first | exact Below.refl _ _ | refine Ext.al ?_ _ | refine Ext.dr ?_ | refine Ext.drN ?_ _ | refine Ext.gr ?_ _ | refine Ext.set ?_ (by simp) _ | (refine Ext.trans' ?_ (by assumption))))⟩
  · obtain ⟨sa, cap, rfl, hl1, hl2, -⟩ := hs.spec
    simp [okStp] at o
    obtain ⟨o1, o2⟩ := o
    have hm0 := v.m0
    have hm1 := v.m1
    clear hs v hv
    cases xb
    all_goals
      go_enter Try.func78, Try.ntmps78
      go_wp2_with fail
      go_quiet (fail)
      go_wp2_with fail
      go_ret3
      exact ⟨ret_iii (by simp [src, stpC]) (by simp [dst, stpC]) (by simp [cost, stpC]), (by repeat (first | exact Below.refl _ _ | refine Ext.al ?_ _ | refine Ext.dr ?_ | refine Ext.drN ?_ _ | refine Ext.gr ?_ _ | refine Ext.set ?_ (by simp) _ | (refine Ext.trans' ?_ (by assumption))))⟩

set_option maxHeartbeats 1000000 in
theorem followed_any (h : Hall) (sv lv : Value) (f : Int) (l : List Stp) (v : Valid h) (hl : ∀ x ∈ l, okStp h x = true) (h200 : l.length ≤ 200) (w : World) (hs : IsCnts w sv h.cs) (hv : IsStps w lv l) :
    Calls Try.prog 75 #[.agg #[.int .i64 h.n, .int .i64 h.most, sv], .int .i64 f, lv] w fun e w' =>
      e = .returned (.tuple #[.int .i64 (fol h 0 f l).1, .int .i64 (fol h 0 f l).2.1, .bool (fol h 0 f l).2.2]) ∧ Ext w w' := by
  obtain ⟨ca, ccap, rfl, hm1, hm2, -⟩ := hs.spec
  obtain ⟨sa, cap, rfl, hl1, hl2, -⟩ := hv.spec
  have HS := Lib.hid hs
  have HV := Lib.hid hv
  have V := Lib.hid v
  have HL := Lib.hid hl
  clear hs hv v hl
  go_enter Try.func75, Try.ntmps75
  go_wp2_with fail
  obtain ⟨w0, hw0⟩ : ∃ w0 : World, w0 = w.alloc (.cells #[.int .i64 h.n, .int .i64 h.most, .slice ca h.cs.length ccap] 24) := ⟨_, rfl⟩
  have k0 : w0.cell? ⟨w.heap.size, 0, none⟩ = some (.int .i64 h.n) := by rw [hw0]; simp [go_sem]
  have k1 : w0.cell? ⟨w.heap.size, 1, none⟩ = some (.int .i64 h.most) := by rw [hw0]; simp [go_sem]
  have k2 : w0.cell? ⟨w.heap.size, 2, none⟩ = some (.slice ca h.cs.length ccap) := by rw [hw0]; simp [go_sem]
  have hE0 : Ext w w0 := by rw [hw0]; exact (by repeat (first | exact Below.refl _ _ | refine Ext.al ?_ _ | refine Ext.dr ?_ | refine Ext.drN ?_ _ | refine Ext.gr ?_ _ | refine Ext.set ?_ (by simp) _ | (refine Ext.trans' ?_ (by assumption))))
  have HE0 := Lib.hid hE0
  rw [← hw0]
  clear hw0 hE0
  have K0 := Lib.hid k0
  have K1 := Lib.hid k1
  have K2 := Lib.hid k2
  clear k0 k1 k2
  go_loopw [1, 9, 10] (fun fv s i W => ∃ (k : Nat) (f' s' : Int), k ≤ l.length ∧ i = .int .i64 k ∧ s = .int .i64 s' ∧ fv = .int .i64 f' ∧ -(10000000 * (k : Int)) ≤ s' ∧ s' ≤ 10000000 * (k : Int) ∧ fol h s' f' (l.drop k) = fol h 0 f l ∧ Ext w0 W) (fun _ _ i _ => l.length - (intOf i).toNat)
  case atStart => exact ⟨0, f, 0, Nat.zero_le _, rfl, rfl, rfl, by simp, by simp, by simp, Below.refl _ _⟩
  case round =>
    obtain ⟨k, f', s', hk, rfl, rfl, rfl, b1, b2, hfol, hb⟩ := hrel
    have HF := Lib.hid hfol
    clear hfol
    by_cases hlt : k < l.length
    · rcases (HV.out.ext (HE0.out.trans' hb)).opened with e | ⟨cb, off, rfl, hc⟩
      · simp [e] at hlt
      obtain ⟨c0, c1, c2⟩ := hc k hlt
      have hok := HL.out l[k] (List.getElem_mem hlt)
      have hcb := cost_bd V.out hok
      have HOK := Lib.hid hok
      have HB := Lib.hid hb
      have HX := Lib.hid (HE0.out.trans' hb)
      have k0 := cell_ext hb K0.out
      have k1 := cell_ext hb K1.out
      have k2 := cell_ext hb K2.out
      have z1 := World.block_lt_of_cell? _ _ k0
      have z2 := World.block_lt_of_cell? _ _ c0
      simp only at z1 z2
      clear hc hok hb
      go_wp2_with fail
      refine wp_region_grow (by kernel_rfl) (by kernel_rfl) ?_
      repeat (first | go_big_quiet_step ((go_at_call 78; exact grow_call (endsR_any h _ l[k] _ V.out HOK.out ((HS.out.ext HX.out).ext (grow_below _ _))))) | quiet_step ((go_at_call 78; exact grow_call (endsR_any h _ l[k] _ V.out HOK.out ((HS.out.ext HX.out).ext (grow_below _ _))))))
      refine wpQuiet_nil ?_
      rintro _ ⟨g, rfl⟩
      have hb' : Ext wr (grow wr g) := grow_below _ _
      have HB' := Lib.hid hb'
      clear hb' k0 k1 k2
      by_cases hsrc : src h l[k] = f'
      · have hsrc' : (src h l[k] == f') = true := by simpa using hsrc
        go_wp2_with fail
        go_roundw
        case rel => exact ⟨k + 1, dst h l[k], s' + cost h l[k], by omega, by go_num, rfl, rfl, by omega, by omega, by rw [← HF.out, fol_drop hlt, if_pos hsrc], HB.out.trans' HB'.out⟩
        case measure => simp [intOf]; omega
      · have hsrc' : (src h l[k] == f') = false := by simpa using hsrc
        go_wp2_with fail
        go_ret3
        exact ⟨ret_iib' (by have := HF.out; rw [fol_drop hlt, if_neg hsrc] at this; rw [← this]), HX.out.trans' HB'.out⟩
    · obtain rfl : k = l.length := by omega
      have hf := HF.out
      rw [List.drop_length, fol] at hf
      go_wp2_with fail
      go_ret3
      exact ⟨ret_iib' (by rw [← hf]), HE0.out.trans' hb⟩

set_option maxHeartbeats 1000000 in
theorem isWay_any (h : Hall) (sv lv : Value) (l : List Stp) (w : World) (hs : IsCnts w sv h.cs) (hv : IsStps w lv l) :
    Calls Try.prog 74 #[.agg #[.int .i64 h.n, .int .i64 h.most, sv], lv] w fun e w' => e = .returned (.int .i64 (isWayE h l)) ∧ Ext w w' := by
  obtain ⟨ca, ccap, rfl, hm1, hm2, -⟩ := hs.spec
  obtain ⟨sa, cap, rfl, hl1, hl2, -⟩ := hv.spec
  have HS := Lib.hid hs
  have HV := Lib.hid hv
  clear hs hv
  by_cases h200 : 200 < l.length
  · have h200' : decide ((200 : Int) < (l.length : Int)) = true := by simp; omega
    go_enter Try.func74, Try.ntmps74
    go_wp2_with fail
    go_ret
    exact ⟨ret_int (by simp [isWayE, h200]), (by repeat (first | exact Below.refl _ _ | refine Ext.al ?_ _ | refine Ext.dr ?_ | refine Ext.drN ?_ _ | refine Ext.gr ?_ _ | refine Ext.set ?_ (by simp) _ | (refine Ext.trans' ?_ (by assumption))))⟩
  have h200' : decide ((200 : Int) < (l.length : Int)) = false := by simp; omega
  go_enter Try.func74, Try.ntmps74
  go_wp2_with fail
  obtain ⟨w0, hw0⟩ : ∃ w0 : World, w0 = w.alloc (.cells #[.int .i64 h.n, .int .i64 h.most, .slice ca h.cs.length ccap] 24) := ⟨_, rfl⟩
  have k0 : w0.cell? ⟨w.heap.size, 0, none⟩ = some (.int .i64 h.n) := by rw [hw0]; simp [go_sem]
  have k1 : w0.cell? ⟨w.heap.size, 1, none⟩ = some (.int .i64 h.most) := by rw [hw0]; simp [go_sem]
  have k2 : w0.cell? ⟨w.heap.size, 2, none⟩ = some (.slice ca h.cs.length ccap) := by rw [hw0]; simp [go_sem]
  have hE0 : Ext w w0 := by rw [hw0]; exact (by repeat (first | exact Below.refl _ _ | refine Ext.al ?_ _ | refine Ext.dr ?_ | refine Ext.drN ?_ _ | refine Ext.gr ?_ _ | refine Ext.set ?_ (by simp) _ | (refine Ext.trans' ?_ (by assumption))))
  have HE0 := Lib.hid hE0
  rw [← hw0]
  clear hw0 hE0
  have K0 := Lib.hid k0
  have K1 := Lib.hid k1
  have K2 := Lib.hid k2
  clear k0 k1 k2
  go_loopw [5] (fun i W => ∃ (k : Nat), k ≤ l.length ∧ i = .int .i64 k ∧ (∀ x ∈ l.take k, oddS h x = false) ∧ Ext w0 W) (fun i _ => l.length - (intOf i).toNat)
  case atStart => exact ⟨0, Nat.zero_le _, rfl, by simp, Below.refl _ _⟩
  case round =>
    obtain ⟨k, hk, rfl, hno, hb⟩ := hrel
    have HN := Lib.hid hno
    clear hno
    by_cases hlt : k < l.length
    · rcases (HV.out.ext (HE0.out.trans' hb)).opened with e | ⟨cb, off, rfl, hc⟩
      · simp [e] at hlt
      obtain ⟨c0, c1, c2⟩ := hc k hlt
      have HB := Lib.hid hb
      have HX := Lib.hid (HE0.out.trans' hb)
      have k0 := cell_ext hb K0.out
      have k1 := cell_ext hb K1.out
      have k2 := cell_ext hb K2.out
      have z1 := World.block_lt_of_cell? _ _ k0
      have z2 := World.block_lt_of_cell? _ _ c0
      simp only at z1 z2
      clear hc hb
      go_wp2_with fail
      refine wp_region_grow (by kernel_rfl) (by kernel_rfl) ?_
      repeat (first | go_big_quiet_step ((go_at_call 102; exact grow_call (isStepR_any h _ l[k] _ ((HS.out.ext HX.out).ext (grow_below _ _))))) | quiet_step ((go_at_call 102; exact grow_call (isStepR_any h _ l[k] _ ((HS.out.ext HX.out).ext (grow_below _ _))))))
      refine wpQuiet_nil ?_
      rintro _ ⟨g, rfl⟩
      have hb' : Ext wr (grow wr g) := grow_below _ _
      have HB' := Lib.hid hb'
      clear hb' k0 k1 k2
      cases ho : okStp h l[k]
      · go_wp2_with fail
        go_ret
        exact ⟨ret_int (by simp only [isWayE, if_neg h200, any_of_at hlt (p := oddS h) (by simp [oddS, ho])]; rfl), HX.out.trans' HB'.out⟩
      · go_wp2_with fail
        go_roundw
        case rel => exact ⟨k + 1, by omega, by go_num, take_ext hlt HN.out (by simp [oddS, ho]), HB.out.trans' HB'.out⟩
        case measure => simp [intOf]; omega
    · go_wp2_with fail
      go_ret
      exact ⟨ret_int (by simp [isWayE, h200, any_of_none (take_all hlt HN.out)]), HE0.out.trans' hb⟩

set_option maxHeartbeats 1000000 in
theorem places_any (h : Hall) (sv : Value) (f t : Int) (w : World) (hs : IsCnts w sv h.cs) :
    Calls Try.prog 73 #[.agg #[.int .i64 h.n, .int .i64 h.most, sv], .int .i64 f, .int .i64 t] w fun e w' => e = .returned (.int .i64 (openE h [f, t])) ∧ Ext w w' := by
  obtain ⟨ca, ccap, rfl, hm1, hm2, -⟩ := hs.spec
  have HS := Lib.hid hs
  clear hs
  go_enter Try.func73, Try.ntmps73
  go_wp2_with fail
  refine (checkHallR_any h (.slice ca h.cs.length ccap) _ (HS.out.ext (by repeat (first | exact Below.refl _ _ | refine Ext.al ?_ _ | refine Ext.dr ?_ | refine Ext.drN ?_ _ | refine Ext.gr ?_ _ | refine Ext.set ?_ (by simp) _ | (refine Ext.trans' ?_ (by assumption)))))).mono ?_
  rintro e W1 ⟨rfl, hb1⟩
  have k0 := cell_ext hb1 (a := ⟨w.heap.size, 0, none⟩) (v := .int .i64 h.n) (by simp [go_sem])
  have k1 := cell_ext hb1 (a := ⟨w.heap.size, 1, none⟩) (v := .int .i64 h.most) (by simp [go_sem])
  have k2 := cell_ext hb1 (a := ⟨w.heap.size, 2, none⟩) (v := .slice ca h.cs.length ccap) (by simp [go_sem])
  have hE1 : Ext w W1 := Ext.trans' (by repeat (first | exact Below.refl _ _ | refine Ext.al ?_ _ | refine Ext.dr ?_ | refine Ext.drN ?_ _ | refine Ext.gr ?_ _ | refine Ext.set ?_ (by simp) _ | (refine Ext.trans' ?_ (by assumption)))) hb1
  have HE1 := Lib.hid hE1
  clear hb1 hE1
  by_cases hc : chk h = 0
  · have hc' : (chk h == 0) = true := by simpa using hc
    go_wp2
    all_goals
      go_ret
      exact ⟨ret_int (by simp [openE, hc, oddP]; omega), HE1.out⟩
  · have hc' : (chk h == 0) = false := by simpa using hc
    go_wp2_with fail
    refine (checkHallR_any h (.slice ca h.cs.length ccap) _ (HS.out.ext HE1.out)).mono ?_
    rintro e W2 ⟨rfl, hb2⟩
    go_wp2_with fail
    go_ret
    exact ⟨ret_int (by simp [openE, hc]), HE1.out.trans' hb2⟩
end Go.Proofs.Ytgcldgchhdjnhaa
