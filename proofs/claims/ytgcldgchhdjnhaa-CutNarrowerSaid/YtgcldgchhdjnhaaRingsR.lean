/-
  The walk of the reference's CheckRings.
-/
import Derived.Test.YtgcldgchhdjnhaaRings
import Derived.Test.YtgcldgchhdjnhaaRefS
import Derived.Test.YtgcldgchhdjnhaaWayCR
import Derived.Test.YtgcldgchhdjnhaaGrow
namespace Go.Proofs.Ytgcldgchhdjnhaa
open Go.RowKit Go.Shelf

set_option maxRecDepth 100000 in
set_option maxHeartbeats 4000000 in
theorem checkRingsR_any (h : Hall) (sv rv : Value) (ps : List (Value × List Stp)) (w : World) (hs : IsCnts w sv h.cs) (hv : IsRngs w rv ps) :
    Calls Try.prog 35 #[.agg #[.int .i64 h.n, .int .i64 h.most, sv], rv] w fun e w' =>
      e = .returned (.tuple #[.int .i64 (ringsNR h (ps.map (·.2))), .int .i64 (ringsErrR h (ps.map (·.2)))]) ∧ Ext w w' := by
  obtain ⟨ca, ccap, rfl, hm1, hm2, -⟩ := hs.spec
  obtain ⟨ra, rcap, rfl, hr1, hr2, -⟩ := hv.spec
  have HS := Lib.hid hs
  have HV := Lib.hid hv
  clear hs hv
  obtain ⟨E, hE⟩ : ∃ E, E = ringsErrR h (ps.map (·.2)) := ⟨_, rfl⟩
  obtain ⟨C, hC⟩ : ∃ C, C = ringsNR h (ps.map (·.2)) := ⟨_, rfl⟩
  have HERR := Lib.hid hE
  have HCNT := Lib.hid hC
  rw [← hE, ← hC]
  clear hE hC
  have HRET : Hid (∀ e : Int, e ≠ 0 → ringsErrR h (ps.map (·.2)) = e → Ending.returned (.tuple #[.int .i64 0, .int .i64 e]) = .returned (.tuple #[.int .i64 C, .int .i64 E])) := Lib.hid fun e he hh =>
    ret_ii (by rw [HCNT.out, ringsNR, hh, if_neg he]) (by rw [HERR.out, hh])
  go_enter Try.func35, Try.ntmps35
  go_wp2_with fail
  refine (checkHallR_any h (.slice ca h.cs.length ccap) _ (HS.out.ext (by repeat (first | exact Below.refl _ _ | refine Ext.al ?_ _ | refine Ext.dr ?_ | refine Ext.drN ?_ _ | refine Ext.gr ?_ _ | refine Ext.set ?_ (by simp) _ | (refine Ext.trans' ?_ (by assumption)))))).mono ?_
  rintro e W1 ⟨rfl, hb1⟩
  have k0 := cell_ext hb1 (a := ⟨w.heap.size, 0, none⟩) (v := .int .i64 h.n) (by simp [go_sem])
  have k1 := cell_ext hb1 (a := ⟨w.heap.size, 1, none⟩) (v := .int .i64 h.most) (by simp [go_sem])
  have k2 := cell_ext hb1 (a := ⟨w.heap.size, 2, none⟩) (v := .slice ca h.cs.length ccap) (by simp [go_sem])
  have HE1 := Lib.hid (Ext.trans' (by exact (by repeat (first | exact Below.refl _ _ | refine Ext.al ?_ _ | refine Ext.dr ?_ | refine Ext.drN ?_ _ | refine Ext.gr ?_ _ | refine Ext.set ?_ (by simp) _ | (refine Ext.trans' ?_ (by assumption))))) hb1 : Ext w W1)
  clear hb1
  by_cases hc : chk h = 0
  rotate_left
  · have hc' : (chk h == 0) = false := by simpa using hc
    have e : ringsErrR h (ps.map (·.2)) = chk h := by unfold ringsErrR; rw [if_pos hc]
    have HC := Lib.hid hc
    have HEE := Lib.hid e
    clear hc e
    go_wp2_with fail
    refine (checkHallR_any h (.slice ca h.cs.length ccap) _ (HS.out.ext HE1.out)).mono ?_
    rintro e W2 ⟨rfl, hb2⟩
    go_wp2_with fail
    refine bodyPost_ret (v := .tuple #[.int .i64 0, .int .i64 (chk h)]) (by simp [results, Try.results35, go_sem]) rfl ?_
    exact ⟨HRET.out _ HC.out HEE.out, HE1.out.trans' hb2⟩
  have hc' : (chk h == 0) = true := by simpa using hc
  have V := Lib.hid (valid_of_chk hc)
  have HC := Lib.hid hc
  clear hc
  by_cases h20 : 20 < ps.length
  · have h20' : decide ((20 : Int) < (ps.length : Int)) = true := by simp; omega
    go_wp2_with fail
    refine bodyPost_ret (v := .tuple #[.int .i64 0, .int .i64 6]) (by simp [results, Try.results35, go_sem]) rfl ?_
    have e : ringsErrR h (ps.map (·.2)) = 6 := by unfold ringsErrR; rw [if_neg (by simpa using HC.out), if_pos (.inl (by simpa using h20))]
    exact ⟨HRET.out _ (by omega) e, HE1.out⟩
  have h20' : decide ((20 : Int) < (ps.length : Int)) = false := by simp; omega
  go_wp2_with fail
  have hps20 : ps.length ≤ 20 := by omega
  have H20 := Lib.hid h20
  have K0 := Lib.hid k0
  have K1 := Lib.hid k1
  have K2 := Lib.hid k2
  have hz1 : w.heap.size < W1.heap.size := World.block_lt_of_cell? _ _ k0
  clear k0 k1 k2 h20 h20' hc'
  go_loopw [6] (fun i W => ∃ k : Nat, k ≤ ps.length ∧ i = .int .i64 k ∧ (∀ x ∈ ps.take k, decide (200 < x.2.length) = false) ∧ Ext W1 W) (fun i _ => ps.length - (intOf i).toNat)
  case atStart => exact ⟨0, Nat.zero_le _, rfl, by simp, Below.refl _ _⟩
  case round =>
    obtain ⟨k, hk, rfl, hno, hb⟩ := hrel
    have HN := Lib.hid hno
    have HB := Lib.hid hb
    by_cases hlt : k < ps.length
    · rcases (HV.out.ext (HE1.out.trans' hb)).opened with e | ⟨rb, ro, rfl, hrc⟩
      · simp [e] at hlt
      have hck := hrc k hlt
      obtain ⟨la, lcap, hpe, -, -, -⟩ := (HV.out.2 ps[k] (List.getElem_mem hlt)).spec
      rw [hpe] at hck
      clear hrc hno hb hpe
      by_cases h2 : 200 < ps[k].2.length
      · have h2' : decide ((200 : Int) < (ps[k].2.length : Int)) = true := by simp; omega
        have H2 := Lib.hid h2
        clear h2
        go_wp2_with fail
        refine bodyPost_ret (v := .tuple #[.int .i64 0, .int .i64 6]) (by simp [results, Try.results35, go_sem]) rfl ?_
        have e : ringsErrR h (ps.map (·.2)) = 6 := by
          unfold ringsErrR
          rw [if_neg (by simpa using HC.out), if_pos (.inr (by rw [any_map2]; exact any_of_at hlt (p := fun x => decide (200 < x.2.length)) (by simpa using H2.out)))]
        exact ⟨HRET.out _ (by omega) e, HE1.out.trans' HB.out⟩
      · have h2' : decide ((200 : Int) < (ps[k].2.length : Int)) = false := by simp; omega
        have H2 := Lib.hid h2
        clear h2
        go_wp2_with fail
        go_roundw
        case rel => exact ⟨k + 1, by omega, by go_num, take_ext (p := fun x => decide (200 < x.2.length)) hlt HN.out (by simpa using H2.out), HB.out⟩
        case measure => simp [intOf]; omega
    · have h200 := take_all hlt HN.out
      have H200 : Hid (∀ x ∈ ps, x.2.length ≤ 200) := Lib.hid fun x hx => by simpa using h200 x hx
      have hn6 : ¬ (20 < (ps.map (·.2)).length ∨ (ps.map (·.2)).any (fun r => decide (200 < r.length)) = true) := by
        rw [any_map2, any_of_none h200]; have := H20.out; simp; omega
      have HN6 := Lib.hid hn6
      have HE2 := Lib.hid (HE1.out.trans' hb)
      have K0' := Lib.hid (cell_ext hb K0.out)
      have K1' := Lib.hid (cell_ext hb K1.out)
      have K2' := Lib.hid (cell_ext hb K2.out)
      obtain ⟨w2, rfl⟩ : ∃ w2 : World, w2 = wr := ⟨_, rfl⟩
      have hz2 : w.heap.size < w2.heap.size := by have := hb.size; omega
      clear hn6 h200 hno hb HN HB K0 K1 K2
      go_wp2_with fail
      go_loopw [7] (fun i W => ∃ k : Nat, k ≤ ps.length ∧ i = .int .i64 k ∧ (∀ x ∈ ps.take k, x.2.any (oddS h) = false) ∧ Ext w2 W) (fun i _ => ps.length - (intOf i).toNat)
      case atStart => exact ⟨0, Nat.zero_le _, rfl, by simp, Below.refl _ _⟩
      case round =>
        obtain ⟨k, hk, rfl, hno, hb⟩ := hrel
        have HN := Lib.hid hno
        have HB := Lib.hid hb
        have HE3 := Lib.hid (HE2.out.trans' hb)
        have k0 := cell_ext hb K0'.out
        have k1 := cell_ext hb K1'.out
        have k2 := cell_ext hb K2'.out
        have hz3 : w.heap.size < wr.heap.size := by have := hb.size; omega
        by_cases hlt : k < ps.length
        · rcases (HV.out.ext HE3.out).opened with e | ⟨rb, ro, rfl, hrc⟩
          · simp [e] at hlt
          have hck := hrc k hlt
          have hrb : rb < wr.heap.size := World.block_lt_of_cell? _ _ hck
          obtain ⟨la, lcap, hpe, -, -, -⟩ := (HV.out.2 ps[k] (List.getElem_mem hlt)).spec
          have HST := Lib.hid (HV.out.2 ps[k] (List.getElem_mem hlt))
          have HSL : Hid (IsStps wr (.slice la ps[k].2.length lcap) ps[k].2) := Lib.hid (by rw [← hpe]; exact HST.out.ext HE3.out)
          have hwe := isWayE_eq (h := h) (H200.out ps[k] (List.getElem_mem hlt))
          have hcall := fun g => isWay_any h _ ps[k].1 ps[k].2 (grow wr g) ((HS.out.ext HE3.out).ext (grow_below _ g)) ((HST.out.ext HE3.out).ext (grow_below _ g))
          rw [hwe, hpe] at hcall
          rw [hpe] at hck
          have HCALL := Lib.hid hcall
          clear hrc hno hb hpe hwe hcall
          cases hodd : ps[k].2.any (oddS h)
          · have HODD := Lib.hid hodd
            have hcall := HCALL.out
            rw [hodd] at hcall
            simp only [Bool.false_eq_true, if_false] at hcall
            have HCALL2 := Lib.hid hcall
            clear hodd hcall
            go_wp2_with fail
            refine wp_region_grow (by kernel_rfl) (by kernel_rfl) ?_
            repeat (first | go_big_quiet_step ((go_at_call 74; exact grow_call (HCALL2.out _))) | quiet_step ((go_at_call 74; exact grow_call (HCALL2.out _))))
            refine wpQuiet_nil ?_
            rintro _ ⟨g, rfl⟩
            have HG := Lib.hid (grow_below wr g)
            clear k0 k1 k2 hck
            go_wp2_with fail
            go_roundw
            case rel => exact ⟨k + 1, by omega, by go_num, take_ext (p := fun x => x.2.any (oddS h)) hlt HN.out HODD.out, HB.out.trans' HG.out⟩
            case measure => simp [intOf]; omega
          · have HODD := Lib.hid hodd
            have hcall := HCALL.out
            rw [hodd] at hcall
            simp only [if_true] at hcall
            have HCALL2 := Lib.hid hcall
            have e : ringsErrR h (ps.map (·.2)) = 3 := by
              unfold ringsErrR
              rw [if_neg (by simpa using HC.out), if_neg HN6.out, if_pos (by rw [any_map2]; exact any_of_at hlt (p := fun x => x.2.any (oddS h)) hodd)]
            have HEE := Lib.hid e
            clear hodd hcall e
            go_wp2_with fail
            refine wp_region_grow (by kernel_rfl) (by kernel_rfl) ?_
            repeat (first | go_big_quiet_step ((go_at_call 74; exact grow_call (HCALL2.out _))) | quiet_step ((go_at_call 74; exact grow_call (HCALL2.out _))))
            refine wpQuiet_nil ?_
            rintro _ ⟨g, rfl⟩
            have hcall2 := fun g' => isWay_any h _ (.slice la ps[k].2.length lcap) ps[k].2 (grow (grow wr g) g') ((HS.out.ext HE3.out).ext (Ext.gr (grow_below wr g) g')) (HSL.out.ext (Ext.gr (grow_below wr g) g'))
            rw [isWayE_eq (h := h) (H200.out ps[k] (List.getElem_mem hlt)), HODD.out] at hcall2
            simp only [if_true] at hcall2
            have HCALL3 := Lib.hid hcall2
            clear hcall2
            go_wp2_with fail
            refine wp_region_grow (by kernel_rfl) (by kernel_rfl) ?_
            repeat (first | go_big_quiet_step ((go_at_call 74; exact grow_call (HCALL3.out _))) | quiet_step ((go_at_call 74; exact grow_call (HCALL3.out _))))
            refine wpQuiet_nil ?_
            rintro _ ⟨g, rfl⟩
            go_wp2_with fail
            refine bodyPost_ret (v := .tuple #[.int .i64 0, .int .i64 3]) (by simp [results, Try.results35, go_sem]) rfl ?_
            exact ⟨HRET.out _ (by omega) HEE.out, HE3.out.trans' (Ext.gr (Ext.gr (Below.refl _ _) _) _)⟩
        · have hodd := take_all hlt HN.out
          have hn3 : ¬ (ps.map (·.2)).any (fun r => r.any (oddS h)) = true := by rw [any_map2, any_of_none hodd]; simp
          have HOK : Hid (∀ x ∈ ps, ∀ y ∈ x.2, okStp h y = true) := Lib.hid fun x hx => any_odd (hodd x hx)
          have HN3 := Lib.hid hn3
          obtain ⟨w3, rfl⟩ : ∃ w3 : World, w3 = wr := ⟨_, rfl⟩
          have K0 := Lib.hid k0
          have K1 := Lib.hid k1
          have K2 := Lib.hid k2
          clear hn3 hodd hb HN HB K0' K1' K2' k0 k1 k2
          go_wp2_with fail
          go_loopw [8] (fun i W => ∃ k : Nat, k ≤ ps.length ∧ i = .int .i64 k ∧ (∀ x ∈ ps.take k, (!isRingM h x.2) = false) ∧ Ext w3 W) (fun i _ => ps.length - (intOf i).toNat)
          case atStart => exact ⟨0, Nat.zero_le _, rfl, by simp, Below.refl _ _⟩
          case round =>
            obtain ⟨k, hk, rfl, hno, hb⟩ := hrel
            have HN := Lib.hid hno
            have HB := Lib.hid hb
            have HE4 := Lib.hid (HE3.out.trans' hb)
            have k0 := cell_ext hb K0.out
            have k1 := cell_ext hb K1.out
            have k2 := cell_ext hb K2.out
            have hz4 : w.heap.size < wr.heap.size := by have := hb.size; omega
            by_cases hlt : k < ps.length
            · rcases (HV.out.ext HE4.out).opened with e | ⟨rb, ro, rfl, hrc⟩
              · simp [e] at hlt
              have hck := hrc k hlt
              have hrb : rb < wr.heap.size := World.block_lt_of_cell? _ _ hck
              obtain ⟨la, lcap, hpe, -, -, -⟩ := (HV.out.2 ps[k] (List.getElem_mem hlt)).spec
              have hst := (HV.out.2 ps[k] (List.getElem_mem hlt))
              rw [hpe] at hck hst
              have hcall := fun g => isRingR_any h _ (.slice la ps[k].2.length lcap) ps[k].2 V.out (HOK.out ps[k] (List.getElem_mem hlt)) (H200.out ps[k] (List.getElem_mem hlt)) (grow wr g) ((HS.out.ext HE4.out).ext (grow_below _ g)) ((hst.ext HE4.out).ext (grow_below _ g))
              have HCALL := Lib.hid hcall
              clear hrc hno hb hpe hcall hst
              go_wp2_with fail
              refine wp_region_grow (by kernel_rfl) (by kernel_rfl) ?_
              repeat (first | go_big_quiet_step ((go_at_call 84; exact grow_call (HCALL.out _))) | quiet_step ((go_at_call 84; exact grow_call (HCALL.out _))))
              refine wpQuiet_nil ?_
              rintro _ ⟨g, rfl⟩
              cases hr : isRingM h ps[k].2
              · have e : ringsErrR h (ps.map (·.2)) = 16 := by
                  unfold ringsErrR
                  rw [if_neg (by simpa using HC.out), if_neg HN6.out, if_neg HN3.out, if_pos (by rw [any_map2]; exact any_of_at hlt (p := fun x => !isRingM h x.2) (by simp [hr]))]
                have HEE := Lib.hid e
                clear e hr
                go_wp2_with fail
                refine bodyPost_ret (v := .tuple #[.int .i64 0, .int .i64 16]) (by simp [results, Try.results35, go_sem]) rfl ?_
                exact ⟨HRET.out _ (by omega) HEE.out, HE4.out.trans' (grow_below _ _)⟩
              · have HR := Lib.hid hr
                clear hr
                go_wp2_with fail
                go_roundw
                case rel => exact ⟨k + 1, by omega, by go_num, take_ext (p := fun x => !isRingM h x.2) hlt HN.out (by simp [HR.out]), HB.out.trans' (grow_below _ _)⟩
                case measure => simp [intOf]; omega
            · have hring := take_all hlt HN.out
              have hn16 : ¬ (ps.map (·.2)).any (fun r => !isRingM h r) = true := by rw [any_map2, any_of_none hring]; simp
              have HN16 := Lib.hid hn16
              obtain ⟨w4, rfl⟩ : ∃ w4 : World, w4 = wr := ⟨_, rfl⟩
              have K2' := Lib.hid k2
              clear hn16 hring hb HN HB K0 K1 K2 k0 k1 k2
              go_wp2_with fail
              go_loopw [9] (fun i W => ∃ c : Nat, c ≤ h.cs.length ∧ i = .int .i64 c ∧ (∀ x ∈ (List.range h.cs.length).take c, decide (1 < usedBy (ps.map (·.2)) x) = false) ∧ Ext w4 W) (fun i _ => h.cs.length - (intOf i).toNat)
              case atStart => exact ⟨0, Nat.zero_le _, rfl, by simp, Below.refl _ _⟩
              case round =>
                obtain ⟨c, hc, rfl, hno, hb⟩ := hrel
                have HN := Lib.hid hno
                have HB := Lib.hid hb
                have HE5 := Lib.hid (HE4.out.trans' hb)
                have k2 := cell_ext hb K2'.out
                have hz5 : w.heap.size < wr.heap.size := by have := hb.size; omega
                by_cases hlt : c < h.cs.length
                · clear hno hb
                  go_wp2_with fail
                  obtain ⟨w5, rfl⟩ : ∃ w5 : World, w5 = wr := ⟨_, rfl⟩
                  clear k2
                  go_loopw [10, 11] (fun m i W => ∃ k : Nat, k ≤ ps.length ∧ i = .int .i64 k ∧ m = .int .i64 (usedBy ((ps.take k).map (·.2)) c) ∧ Ext w5 W) (fun _ i _ => ps.length - (intOf i).toNat)
                  case atStart => exact ⟨0, Nat.zero_le _, rfl, rfl, Below.refl _ _⟩
                  case round =>
                    obtain ⟨k, hk, rfl, rfl, hb⟩ := hrel
                    have HB6 := Lib.hid hb
                    by_cases hlt2 : k < ps.length
                    · rcases (HV.out.ext (HE5.out.trans' hb)).opened with e | ⟨rb, ro, rfl, hrc⟩
                      · simp [e] at hlt2
                      have hck := hrc k hlt2
                      have hrb : rb < wr.heap.size := World.block_lt_of_cell? _ _ hck
                      have hst := (HV.out.2 ps[k] (List.getElem_mem hlt2)).ext (HE5.out.trans' hb)
                      have HST := Lib.hid hst
                      have hus : usedBy ((ps.take (k + 1)).map (·.2)) c = usedBy ((ps.take k).map (·.2)) c + if usesM ps[k].2 c then 1 else 0 := by
                        unfold usedBy
                        rw [List.countP_map, List.countP_map, countP_take _ _ _ hlt2]; rfl
                      have hub : usedBy ((ps.take k).map (·.2)) c ≤ 20 := by
                        have h1 : usedBy ((ps.take k).map (·.2)) c ≤ ((ps.take k).map (·.2)).length := List.countP_le_length
                        rw [List.length_map, List.length_take] at h1
                        have := H20.out
                        omega
                      obtain ⟨u, hu⟩ : ∃ u, u = usedBy ((ps.take k).map (·.2)) c := ⟨_, rfl⟩
                      rw [← hu] at hus hub ⊢
                      have HUS := Lib.hid hus
                      clear hrc hb hst hus hu
                      go_wp2_with fail
                      refine callGr (uses_any ps[k].2 ps[k].1 c _ (HST.out.ext (by exact (by repeat (first | exact Below.refl _ _ | refine Ext.al ?_ _ | refine Ext.dr ?_ | refine Ext.drN ?_ _ | refine Ext.gr ?_ _ | refine Ext.set ?_ (by simp) _ | (refine Ext.trans' ?_ (by assumption))))))) fun g => ?_
                      cases hx : usesM ps[k].2 c
                      · have HX := Lib.hid hx
                        clear hx
                        go_wp2_with fail
                        go_roundw
                        case rel => exact ⟨k + 1, by omega, by go_num, by rw [HUS.out, HX.out]; rfl, HB6.out.trans' (Ext.gr (Below.refl _ _) _)⟩
                        case measure => simp [intOf]; omega
                      · have HX := Lib.hid hx
                        clear hx
                        go_wp2_with fail
                        go_roundw
                        case rel => exact ⟨k + 1, by omega, by go_num, by rw [HUS.out, HX.out]; rfl, HB6.out.trans' (Ext.gr (Below.refl _ _) _)⟩
                        case measure => simp [intOf]; omega
                    · obtain rfl : k = ps.length := by omega
                      rw [List.take_length]
                      have hz6 : w.heap.size < wr.heap.size := by have := hb.size; omega
                      by_cases h1 : 1 < usedBy (ps.map (·.2)) c
                      · have h1' : decide ((1 : Int) < (usedBy (ps.map (·.2)) c : Int)) = true := decide_eq_true (by omega)
                        have e : ringsErrR h (ps.map (·.2)) = 14 := by
                          unfold ringsErrR
                          rw [if_neg (by simpa using HC.out), if_neg HN6.out, if_neg HN3.out, if_neg HN16.out, if_pos]
                          rw [List.any_eq_true]
                          exact ⟨c, List.mem_range.2 hlt, by simpa using h1⟩
                        have HEE := Lib.hid e
                        clear e h1 hb
                        go_wp2_with fail
                        refine bodyPost_ret (v := .tuple #[.int .i64 0, .int .i64 14]) (by simp [results, Try.results35, go_sem]) rfl ?_
                        exact ⟨HRET.out _ (by omega) HEE.out, HE5.out.trans' HB6.out⟩
                      · have h1' : decide ((1 : Int) < (usedBy (ps.map (·.2)) c : Int)) = false := decide_eq_false (by omega)
                        have H1 := Lib.hid h1
                        clear h1 hb
                        go_wp2_with fail
                        go_roundw
                        case rel =>
                          refine ⟨c + 1, by omega, by go_num, ?_, HB.out.trans' HB6.out⟩
                          refine take_ext (p := fun x => decide (1 < usedBy (ps.map (·.2)) x)) (by simpa using hlt) HN.out ?_
                          simpa using H1.out
                        case measure => simp [intOf]; omega
                · have hnone := take_all (p := fun x => decide (1 < usedBy (ps.map (·.2)) x)) (l := List.range h.cs.length) (by simpa using hlt) HN.out
                  have e : ringsErrR h (ps.map (·.2)) = 0 := by
                    unfold ringsErrR
                    rw [if_neg (by simpa using HC.out), if_neg HN6.out, if_neg HN3.out, if_neg HN16.out, any_of_none hnone]; rfl
                  have HEE := Lib.hid e
                  clear e hnone hno hb
                  go_wp2_with fail
                  refine bodyPost_ret (v := .tuple #[.int .i64 ps.length, .int .i64 0]) (by simp [results, Try.results35, go_sem]) rfl ?_
                  exact ⟨ret_ii (by rw [HCNT.out, ringsNR, HEE.out, if_pos rfl]; simp) (by rw [HERR.out, HEE.out]), HE5.out⟩
end Go.Proofs.Ytgcldgchhdjnhaa
