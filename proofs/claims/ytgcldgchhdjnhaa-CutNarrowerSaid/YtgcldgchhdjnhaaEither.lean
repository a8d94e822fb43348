/-
  The statement CutEither holds: there is either a truth, and then no given way is a ring, or a ring that is returned, and then no given numbers are a truth; not both; for every hall, any numbers and any steps that are handed in. No condition.
-/
import Derived.Test.YtgcldgchhdjnhaaRingsL
import Derived.Test.YtgcldgchhdjnhaaMath2
namespace Go.Proofs.Ytgcldgchhdjnhaa
open Go.RowKit Go.Shelf
theorem ringsErr_agr {h : Hall} (hc : chk h = 0) (e : (leastM h 0).2 = true) (l : List Stp) : ringsErrR h [l] ≠ 0 := by
  have v := valid_of_chk hc
  have p := pot_of_agree v (st := 0) (by have := v.n1; omega) e
  unfold ringsErrR
  rw [if_neg (fun hh => hh hc)]
  split
  · omega
  split
  · omega
  · rename_i h1
    have ok : ∀ x ∈ l, okStp h x = true := fun x hx => by
      cases hx2 : okStp h x with
      | true => rfl
      | false => exact absurd (by simp; exact ⟨x, hx, by simp [oddS, hx2]⟩) h1
    have := p.noRing ok
    rw [if_pos (by simp [this])]
    omega
theorem truthErr_agr {h : Hall} (hc : chk h = 0) (e : (leastM h 0).2 = true) : truthErr h = 0 := by unfold truthErr; rw [if_neg (fun hh => hh hc), e]; rfl
theorem truthErr_not {h : Hall} (hc : chk h = 0) (e : (leastM h 0).2 = false) : truthErr h = 5 := by unfold truthErr; rw [if_neg (fun hh => hh hc), e]; rfl
theorem truthL_not {h : Hall} (e : truthErr h ≠ 0) : truthL h = [] := by unfold truthL; rw [if_neg e]
theorem truthE_not {h : Hall} (hc : chk h = 0) (e : (leastM h 0).2 = false) (t : List Int) : truthE h t ≠ 0 := fun hh => by
  have v := valid_of_chk hc
  have := (agr_iff v).2 ((agr_truth v).2 ⟨t, (truthE_iff.1 hh).2⟩)
  rw [e] at this; cases this
theorem ringsN_one (h : Hall) (l : List Stp) : ringsN h [l] = if ringsErrR h [l] = 0 then 1 else 0 := by unfold ringsN; rw [rings_eq]; rfl
theorem checkOne_any (h : Hall) (sv lv rv : Value) (l : List Stp) (w : World) (hs : IsCnts w sv h.cs) (hv : IsRngs w rv [(lv, l)]) :
    Calls Try.prog 34 #[.agg #[.int .i64 h.n, .int .i64 h.most, sv], rv] w fun e w' =>
      e = .returned (.tuple #[.int .i64 (if ringsErrR h [l] = 0 then 1 else 0), .int .i64 (ringsErrR h [l])]) ∧ Ext w w' := by
  have := checkRings_any h sv rv [(lv, l)] w hs hv
  simp only [List.map_cons, List.map_nil] at this
  rw [ringsN_one, rings_eq] at this
  exact this
theorem oneRng {W : World} {lv : Value} {l : List Stp} (T : TypeId) (hl : IsStps W lv l) : IsRngs (W.alloc (.cells #[lv] T)) (.slice (some ⟨W.heap.size, 0, none⟩) 1 1) [(lv, l)] := by
  refine ⟨⟨_, 1, rfl, by simp, by omega, .inr ⟨_, 0, rfl, newRowAt _ [lv] _ _ _ (by simp) rfl⟩⟩, fun x hx => ?_⟩
  simp only [List.mem_singleton] at hx
  subst hx
  exact hl.ext (by exact (by repeat (first | exact Below.refl _ _ | refine Ext.al ?_ _ | refine Ext.dr ?_ | refine Ext.drN ?_ _ | refine Ext.gr ?_ _ | refine Ext.set ?_ (by simp) _ | (refine Ext.trans' ?_ (by assumption)))))
set_option maxRecDepth 100000 in
set_option maxHeartbeats 4000000 in
theorem cutEither_any (h : Hall) (sv tv : Value) (t : List Int) (lv : Value) (l : List Stp) (w : World) (hs : IsCnts w sv h.cs) (ht : IsInts w .i64 tv t) (hl : IsStps w lv l) :
    Calls Try.prog 8 #[.agg #[.int .i64 h.n, .int .i64 h.most, sv], tv, lv] w fun e w' => e = .returned (.bool true) ∧ Ext w w' := by
  obtain ⟨sa, cap, rfl, hl1, hl2, -⟩ := hs.spec
  obtain ⟨ta, tcap, rfl, hm1, hm2, -⟩ := ht.spec
  obtain ⟨la, lcap, rfl, hm3, hm4, -⟩ := hl.spec
  have HS0 := Lib.hid hs
  have HT0 := Lib.hid ht
  have HL0 := Lib.hid hl
  clear hs ht hl
  go_enter Try.func8, Try.ntmps8
  go_upto_region 1 with (fail)
  obtain ⟨W0, hW0⟩ : ∃ W0, W0 = w.alloc (.cells #[.int .i64 h.n, .int .i64 h.most, .slice sa h.cs.length cap] 24) := ⟨_, rfl⟩
  have hE : Ext w W0 := by rw [hW0]; exact (by repeat (first | exact Below.refl _ _ | refine Ext.al ?_ _ | refine Ext.dr ?_ | refine Ext.drN ?_ _ | refine Ext.gr ?_ _ | refine Ext.set ?_ (by simp) _ | (refine Ext.trans' ?_ (by assumption))))
  have k0 : W0.cell? ⟨w.heap.size, 0, none⟩ = some (.int .i64 h.n) := by rw [hW0]; simp [go_sem]
  have k1 : W0.cell? ⟨w.heap.size, 1, none⟩ = some (.int .i64 h.most) := by rw [hW0]; simp [go_sem]
  have k2 : W0.cell? ⟨w.heap.size, 2, none⟩ = some (.slice sa h.cs.length cap) := by rw [hW0]; simp [go_sem]
  have hz : w.heap.size < W0.heap.size := World.block_lt_of_cell? _ _ k0
  have HS := Lib.hid (HS0.out.ext hE)
  have HW := Lib.hid hE
  rw [← hW0]
  clear hW0 HS0
  have HT := Lib.hid (HT0.out.ext hE)
  have HL := Lib.hid (HL0.out.ext hE)
  clear hE HT0 HL0

  go_wp2_with fail
  refine callW (W0 := W0) (g := ⟨W0, Below.refl _ _⟩) (by exact (by repeat (first | exact Below.refl _ _ | refine Ext.al ?_ _ | refine Ext.dr ?_ | refine Ext.drN ?_ _ | refine Ext.gr ?_ _ | refine Ext.set ?_ (by simp) _ | (refine Ext.trans' ?_ (by assumption))))) (fine_any h _ _ (HS.out.ext (by exact (by repeat (first | exact Below.refl _ _ | refine Ext.al ?_ _ | refine Ext.dr ?_ | refine Ext.drN ?_ _ | refine Ext.gr ?_ _ | refine Ext.set ?_ (by simp) _ | (refine Ext.trans' ?_ (by assumption))))))) fun g1 hgr => ?_
  clear hgr
  by_cases hc : chk h = 0
  rotate_left
  · rw [show (chk h == 0) = false by simpa using hc]
    clear hc

    go_wp2_with fail
    refine callW (W0 := W0) (g := g1) (by exact (by repeat (first | exact Below.refl _ _ | refine Ext.al ?_ _ | refine Ext.dr ?_ | refine Ext.drN ?_ _ | refine Ext.gr ?_ _ | refine Ext.set ?_ (by simp) _ | (refine Ext.trans' ?_ (by assumption))))) (works_any _) fun g2 hgr => ?_
    clear hgr
    go_wp2_with fail
    go_ret
    exact ⟨rfl, HW.out.trans' (grow_below W0 g2)⟩

  rw [show (chk h == 0) = true by simpa using hc]
  by_cases h30 : 30 < t.length
  · have h30' : decide ((30 : Int) < (t.length : Int)) = true := decide_eq_true (by omega)
    clear h30 hc

    go_wp2_with fail
    refine callW (W0 := W0) (g := g1) (by exact (by repeat (first | exact Below.refl _ _ | refine Ext.al ?_ _ | refine Ext.dr ?_ | refine Ext.drN ?_ _ | refine Ext.gr ?_ _ | refine Ext.set ?_ (by simp) _ | (refine Ext.trans' ?_ (by assumption))))) (works_any _) fun g3 hgr => ?_
    clear hgr
    go_wp2_with fail
    go_ret
    exact ⟨rfl, HW.out.trans' (grow_below W0 g3)⟩

  have h30' : decide ((30 : Int) < (t.length : Int)) = false := decide_eq_false (by omega)
  by_cases h40 : 40 < l.length
  · have h40' : decide ((40 : Int) < (l.length : Int)) = true := decide_eq_true (by omega)
    clear h40 h30 hc

    go_wp2_with fail
    refine callW (W0 := W0) (g := g1) (by exact (by repeat (first | exact Below.refl _ _ | refine Ext.al ?_ _ | refine Ext.dr ?_ | refine Ext.drN ?_ _ | refine Ext.gr ?_ _ | refine Ext.set ?_ (by simp) _ | (refine Ext.trans' ?_ (by assumption))))) (works_any _) fun g4 hgr => ?_
    clear hgr
    go_wp2_with fail
    go_ret
    exact ⟨rfl, HW.out.trans' (grow_below W0 g4)⟩

  have h40' : decide ((40 : Int) < (l.length : Int)) = false := decide_eq_false (by omega)
  have H40 := Lib.hid h40
  clear h30 h40
  have c3 := fun rv w hs hv => checkOne_any h (.slice sa h.cs.length cap) (.slice la l.length lcap) rv l w hs hv
  have c4 := fun w hs ht => checkTruth_any h (.slice sa h.cs.length cap) (.slice ta t.length tcap) t w hs ht
  have c5 := fun w hs hl => isRingL_any h (.slice sa h.cs.length cap) (.slice la l.length lcap) l w hs hl
  cases hag : (leastM h 0).2
  · obtain ⟨e3, he3⟩ : ∃ e3, e3 = ringsErrR h [l] := ⟨_, rfl⟩
    rw [← he3] at c3 c5
    have c1 := fun w hs => truth_fin h (.slice sa h.cs.length cap) w hs
    have c2 := fun w hs => ring_fin h (.slice sa h.cs.length cap) w hs
    unfold RetTruth at c1
    unfold RetRing at c2
    rw [truthErr_not hc hag, truthL_not (by rw [truthErr_not hc hag]; omega)] at c1
    rw [ringErr_not hc hag] at c2
    have hr0 := ringErr_not hc hag
    have hd := truthE_not hc hag t
    obtain ⟨d, hd0⟩ : ∃ d, d = truthE h t := ⟨_, rfl⟩
    have c7 := fun w hs ht => checkTruthR_any h (.slice sa h.cs.length cap) (.slice ta t.length tcap) t w hs ht
    rw [← hd0] at c4 hd c7
    have hd' : (d == 0) = false := by simpa using hd
    have hd2 : (d != 0) = true := by simpa using hd
    have C1 := Lib.hid c1
    have C2 := Lib.hid c2
    have C3 := Lib.hid c3
    have C4 := Lib.hid c4
    have C5 := Lib.hid c5
    have C7 := Lib.hid c7
    have HR0 := Lib.hid hr0
    have HC := Lib.hid hc
    clear c1 c2 c3 c4 c5 c7 hr0 hd hd0 he3 hag hc

    go_wp2_with fail
    refine callWR (W0 := W0) (g := g1) (by exact (by repeat (first | exact Below.refl _ _ | refine Ext.al ?_ _ | refine Ext.dr ?_ | refine Ext.drN ?_ _ | refine Ext.gr ?_ _ | refine Ext.set ?_ (by simp) _ | (refine Ext.trans' ?_ (by assumption))))) (C1.out _ (HS.out.ext (by exact (by repeat (first | exact Below.refl _ _ | refine Ext.al ?_ _ | refine Ext.dr ?_ | refine Ext.drN ?_ _ | refine Ext.gr ?_ _ | refine Ext.set ?_ (by simp) _ | (refine Ext.trans' ?_ (by assumption))))))) (fun _ _ ⟨_, _, r, _⟩ => r) fun _ g5 hgr hr => ?_
    obtain ⟨v1, rfl, -, hv1⟩ := hr
    clear hgr
    obtain ⟨va, vcap, rfl, -⟩ := hv1.spec
    clear hv1
    simp only [List.length_nil]
    go_wp2_with fail
    refine callWR (W0 := W0) (g := g5) (by exact (by repeat (first | exact Below.refl _ _ | refine Ext.al ?_ _ | refine Ext.dr ?_ | refine Ext.drN ?_ _ | refine Ext.gr ?_ _ | refine Ext.set ?_ (by simp) _ | (refine Ext.trans' ?_ (by assumption))))) (C2.out _ (HS.out.ext (by exact (by repeat (first | exact Below.refl _ _ | refine Ext.al ?_ _ | refine Ext.dr ?_ | refine Ext.drN ?_ _ | refine Ext.gr ?_ _ | refine Ext.set ?_ (by simp) _ | (refine Ext.trans' ?_ (by assumption))))))) (fun _ _ ⟨_, _, _, r, _⟩ => r) fun _ g6 hgr hr => ?_
    obtain ⟨v2, r, rfl, -, hv2, hr⟩ := hr
    clear hgr
    obtain ⟨wa, wcap, rfl, -⟩ := hv2.spec
    have HV := Lib.hid hv2
    obtain ⟨q1, q2, q3⟩ := hr.1 HR0.out
    have c6 := fun w hs hl => isRingL_any h (.slice sa h.cs.length cap) (.slice wa r.length wcap) r w hs hl
    rw [ringsErrR_one HC.out (by omega) q2 q1] at c6
    have C6 := Lib.hid c6
    clear hv2 hr c6 q1 q2 q3

    by_cases h3 : e3 = 0
    · subst h3
      replace C3 := C3.out
      rw [if_pos rfl] at C3
      replace C3 := Lib.hid C3

      go_wp2_with fail
      refine callW (W0 := W0) (g := g6) (by exact (by repeat (first | exact Below.refl _ _ | refine Ext.al ?_ _ | refine Ext.dr ?_ | refine Ext.drN ?_ _ | refine Ext.gr ?_ _ | refine Ext.set ?_ (by simp) _ | (refine Ext.trans' ?_ (by assumption))))) (C3.out _ _ (HS.out.ext (by exact (by repeat (first | exact Below.refl _ _ | refine Ext.al ?_ _ | refine Ext.dr ?_ | refine Ext.drN ?_ _ | refine Ext.gr ?_ _ | refine Ext.set ?_ (by simp) _ | (refine Ext.trans' ?_ (by assumption)))))) (oneRng _ (HL.out.ext (by exact (by repeat (first | exact Below.refl _ _ | refine Ext.al ?_ _ | refine Ext.dr ?_ | refine Ext.drN ?_ _ | refine Ext.gr ?_ _ | refine Ext.set ?_ (by simp) _ | (refine Ext.trans' ?_ (by assumption)))))))) fun g7 hgr => ?_
      replace HV := Lib.hid (HV.out.ext hgr)
      clear hgr
      go_wp2_with fail
      refine callW (W0 := W0) (g := g7) (by exact (by repeat (first | exact Below.refl _ _ | refine Ext.al ?_ _ | refine Ext.dr ?_ | refine Ext.drN ?_ _ | refine Ext.gr ?_ _ | refine Ext.set ?_ (by simp) _ | (refine Ext.trans' ?_ (by assumption))))) (C4.out _ (HS.out.ext (by exact (by repeat (first | exact Below.refl _ _ | refine Ext.al ?_ _ | refine Ext.dr ?_ | refine Ext.drN ?_ _ | refine Ext.gr ?_ _ | refine Ext.set ?_ (by simp) _ | (refine Ext.trans' ?_ (by assumption)))))) (HT.out.ext (by exact (by repeat (first | exact Below.refl _ _ | refine Ext.al ?_ _ | refine Ext.dr ?_ | refine Ext.drN ?_ _ | refine Ext.gr ?_ _ | refine Ext.set ?_ (by simp) _ | (refine Ext.trans' ?_ (by assumption))))))) fun g8 hgr => ?_
      replace HV := Lib.hid (HV.out.ext hgr)
      clear hgr
      go_wp2_with fail
      refine callW (W0 := W0) (g := g8) (by exact (by repeat (first | exact Below.refl _ _ | refine Ext.al ?_ _ | refine Ext.dr ?_ | refine Ext.drN ?_ _ | refine Ext.gr ?_ _ | refine Ext.set ?_ (by simp) _ | (refine Ext.trans' ?_ (by assumption))))) (C5.out _ (HS.out.ext (by exact (by repeat (first | exact Below.refl _ _ | refine Ext.al ?_ _ | refine Ext.dr ?_ | refine Ext.drN ?_ _ | refine Ext.gr ?_ _ | refine Ext.set ?_ (by simp) _ | (refine Ext.trans' ?_ (by assumption)))))) (HL.out.ext (by exact (by repeat (first | exact Below.refl _ _ | refine Ext.al ?_ _ | refine Ext.dr ?_ | refine Ext.drN ?_ _ | refine Ext.gr ?_ _ | refine Ext.set ?_ (by simp) _ | (refine Ext.trans' ?_ (by assumption))))))) fun g9 hgr => ?_
      replace HV := Lib.hid (HV.out.ext hgr)
      clear hgr
      go_wp2_with fail
      refine callW (W0 := W0) (g := g9) (by exact (by repeat (first | exact Below.refl _ _ | refine Ext.al ?_ _ | refine Ext.dr ?_ | refine Ext.drN ?_ _ | refine Ext.gr ?_ _ | refine Ext.set ?_ (by simp) _ | (refine Ext.trans' ?_ (by assumption))))) (C6.out _ (HS.out.ext (by exact (by repeat (first | exact Below.refl _ _ | refine Ext.al ?_ _ | refine Ext.dr ?_ | refine Ext.drN ?_ _ | refine Ext.gr ?_ _ | refine Ext.set ?_ (by simp) _ | (refine Ext.trans' ?_ (by assumption)))))) (HV.out.ext (by exact (by repeat (first | exact Below.refl _ _ | refine Ext.al ?_ _ | refine Ext.dr ?_ | refine Ext.drN ?_ _ | refine Ext.gr ?_ _ | refine Ext.set ?_ (by simp) _ | (refine Ext.trans' ?_ (by assumption))))))) fun g10 hgr => ?_
      replace HV := Lib.hid (HV.out.ext hgr)
      clear hgr
      go_wp2_with fail
      refine callW (W0 := W0) (g := g10) (by exact (by repeat (first | exact Below.refl _ _ | refine Ext.al ?_ _ | refine Ext.dr ?_ | refine Ext.drN ?_ _ | refine Ext.gr ?_ _ | refine Ext.set ?_ (by simp) _ | (refine Ext.trans' ?_ (by assumption))))) (C7.out _ (HS.out.ext (by exact (by repeat (first | exact Below.refl _ _ | refine Ext.al ?_ _ | refine Ext.dr ?_ | refine Ext.drN ?_ _ | refine Ext.gr ?_ _ | refine Ext.set ?_ (by simp) _ | (refine Ext.trans' ?_ (by assumption)))))) (HT.out.ext (by exact (by repeat (first | exact Below.refl _ _ | refine Ext.al ?_ _ | refine Ext.dr ?_ | refine Ext.drN ?_ _ | refine Ext.gr ?_ _ | refine Ext.set ?_ (by simp) _ | (refine Ext.trans' ?_ (by assumption))))))) fun g11 hgr => ?_
      replace HV := Lib.hid (HV.out.ext hgr)
      clear hgr
      go_wp2_with fail
      refine callW (W0 := W0) (g := g11) (by exact (by repeat (first | exact Below.refl _ _ | refine Ext.al ?_ _ | refine Ext.dr ?_ | refine Ext.drN ?_ _ | refine Ext.gr ?_ _ | refine Ext.set ?_ (by simp) _ | (refine Ext.trans' ?_ (by assumption))))) (works_any _) fun g12 hgr => ?_
      replace HV := Lib.hid (HV.out.ext hgr)
      clear hgr
      go_wp2_with fail
      go_ret
      exact ⟨rfl, HW.out.trans' (grow_below W0 g12)⟩

    · replace C3 := C3.out
      rw [if_neg h3] at C3
      replace C3 := Lib.hid C3
      have h3' : (e3 == 0) = false := by simpa using h3
      clear h3

      go_wp2_with fail
      refine callW (W0 := W0) (g := g6) (by exact (by repeat (first | exact Below.refl _ _ | refine Ext.al ?_ _ | refine Ext.dr ?_ | refine Ext.drN ?_ _ | refine Ext.gr ?_ _ | refine Ext.set ?_ (by simp) _ | (refine Ext.trans' ?_ (by assumption))))) (C3.out _ _ (HS.out.ext (by exact (by repeat (first | exact Below.refl _ _ | refine Ext.al ?_ _ | refine Ext.dr ?_ | refine Ext.drN ?_ _ | refine Ext.gr ?_ _ | refine Ext.set ?_ (by simp) _ | (refine Ext.trans' ?_ (by assumption)))))) (oneRng _ (HL.out.ext (by exact (by repeat (first | exact Below.refl _ _ | refine Ext.al ?_ _ | refine Ext.dr ?_ | refine Ext.drN ?_ _ | refine Ext.gr ?_ _ | refine Ext.set ?_ (by simp) _ | (refine Ext.trans' ?_ (by assumption)))))))) fun g13 hgr => ?_
      replace HV := Lib.hid (HV.out.ext hgr)
      clear hgr
      go_wp2_with fail
      refine callW (W0 := W0) (g := g13) (by exact (by repeat (first | exact Below.refl _ _ | refine Ext.al ?_ _ | refine Ext.dr ?_ | refine Ext.drN ?_ _ | refine Ext.gr ?_ _ | refine Ext.set ?_ (by simp) _ | (refine Ext.trans' ?_ (by assumption))))) (C4.out _ (HS.out.ext (by exact (by repeat (first | exact Below.refl _ _ | refine Ext.al ?_ _ | refine Ext.dr ?_ | refine Ext.drN ?_ _ | refine Ext.gr ?_ _ | refine Ext.set ?_ (by simp) _ | (refine Ext.trans' ?_ (by assumption)))))) (HT.out.ext (by exact (by repeat (first | exact Below.refl _ _ | refine Ext.al ?_ _ | refine Ext.dr ?_ | refine Ext.drN ?_ _ | refine Ext.gr ?_ _ | refine Ext.set ?_ (by simp) _ | (refine Ext.trans' ?_ (by assumption))))))) fun g14 hgr => ?_
      replace HV := Lib.hid (HV.out.ext hgr)
      clear hgr
      go_wp2_with fail
      refine callW (W0 := W0) (g := g14) (by exact (by repeat (first | exact Below.refl _ _ | refine Ext.al ?_ _ | refine Ext.dr ?_ | refine Ext.drN ?_ _ | refine Ext.gr ?_ _ | refine Ext.set ?_ (by simp) _ | (refine Ext.trans' ?_ (by assumption))))) (C5.out _ (HS.out.ext (by exact (by repeat (first | exact Below.refl _ _ | refine Ext.al ?_ _ | refine Ext.dr ?_ | refine Ext.drN ?_ _ | refine Ext.gr ?_ _ | refine Ext.set ?_ (by simp) _ | (refine Ext.trans' ?_ (by assumption)))))) (HL.out.ext (by exact (by repeat (first | exact Below.refl _ _ | refine Ext.al ?_ _ | refine Ext.dr ?_ | refine Ext.drN ?_ _ | refine Ext.gr ?_ _ | refine Ext.set ?_ (by simp) _ | (refine Ext.trans' ?_ (by assumption))))))) fun g15 hgr => ?_
      replace HV := Lib.hid (HV.out.ext hgr)
      clear hgr
      go_wp2_with fail
      refine callW (W0 := W0) (g := g15) (by exact (by repeat (first | exact Below.refl _ _ | refine Ext.al ?_ _ | refine Ext.dr ?_ | refine Ext.drN ?_ _ | refine Ext.gr ?_ _ | refine Ext.set ?_ (by simp) _ | (refine Ext.trans' ?_ (by assumption))))) (C6.out _ (HS.out.ext (by exact (by repeat (first | exact Below.refl _ _ | refine Ext.al ?_ _ | refine Ext.dr ?_ | refine Ext.drN ?_ _ | refine Ext.gr ?_ _ | refine Ext.set ?_ (by simp) _ | (refine Ext.trans' ?_ (by assumption)))))) (HV.out.ext (by exact (by repeat (first | exact Below.refl _ _ | refine Ext.al ?_ _ | refine Ext.dr ?_ | refine Ext.drN ?_ _ | refine Ext.gr ?_ _ | refine Ext.set ?_ (by simp) _ | (refine Ext.trans' ?_ (by assumption))))))) fun g16 hgr => ?_
      replace HV := Lib.hid (HV.out.ext hgr)
      clear hgr
      go_wp2_with fail
      refine callW (W0 := W0) (g := g16) (by exact (by repeat (first | exact Below.refl _ _ | refine Ext.al ?_ _ | refine Ext.dr ?_ | refine Ext.drN ?_ _ | refine Ext.gr ?_ _ | refine Ext.set ?_ (by simp) _ | (refine Ext.trans' ?_ (by assumption))))) (C7.out _ (HS.out.ext (by exact (by repeat (first | exact Below.refl _ _ | refine Ext.al ?_ _ | refine Ext.dr ?_ | refine Ext.drN ?_ _ | refine Ext.gr ?_ _ | refine Ext.set ?_ (by simp) _ | (refine Ext.trans' ?_ (by assumption)))))) (HT.out.ext (by exact (by repeat (first | exact Below.refl _ _ | refine Ext.al ?_ _ | refine Ext.dr ?_ | refine Ext.drN ?_ _ | refine Ext.gr ?_ _ | refine Ext.set ?_ (by simp) _ | (refine Ext.trans' ?_ (by assumption))))))) fun g17 hgr => ?_
      replace HV := Lib.hid (HV.out.ext hgr)
      clear hgr
      go_wp2_with fail
      refine callW (W0 := W0) (g := g17) (by exact (by repeat (first | exact Below.refl _ _ | refine Ext.al ?_ _ | refine Ext.dr ?_ | refine Ext.drN ?_ _ | refine Ext.gr ?_ _ | refine Ext.set ?_ (by simp) _ | (refine Ext.trans' ?_ (by assumption))))) (works_any _) fun g18 hgr => ?_
      replace HV := Lib.hid (HV.out.ext hgr)
      clear hgr
      go_wp2_with fail
      go_ret
      exact ⟨rfl, HW.out.trans' (grow_below W0 g18)⟩


  · have ne := ringsErr_agr hc hag l
    obtain ⟨e3, he3⟩ : ∃ e3, e3 = ringsErrR h [l] := ⟨_, rfl⟩
    rw [← he3] at c3 c5 ne
    rw [if_neg ne] at c3
    have c1 := fun w hs => truth_fin h (.slice sa h.cs.length cap) w hs
    have c2 := fun w hs => ring_fin h (.slice sa h.cs.length cap) w hs
    unfold RetTruth at c1
    unfold RetRing at c2
    rw [truthErr_agr hc hag] at c1
    rw [ringErr_agr hc hag] at c2
    have ne' : (e3 == 0) = false := by simpa using ne
    have ne2 : (e3 != 0) = true := by simpa using ne
    rw [ne'] at c5
    have htr := truthL_ok (truthErr_agr hc hag)
    have hr0 : ringErr h ≠ 0 := by rw [ringErr_agr hc hag]; omega
    have C1 := Lib.hid c1
    have C2 := Lib.hid c2
    have C3 := Lib.hid c3
    have C4 := Lib.hid c4
    have C5 := Lib.hid c5
    have HTR := Lib.hid htr
    have HR0 := Lib.hid hr0
    clear c1 c2 c3 c4 c5 htr hr0 ne he3 hag hc

    go_wp2_with fail
    refine callWR (W0 := W0) (g := g1) (by exact (by repeat (first | exact Below.refl _ _ | refine Ext.al ?_ _ | refine Ext.dr ?_ | refine Ext.drN ?_ _ | refine Ext.gr ?_ _ | refine Ext.set ?_ (by simp) _ | (refine Ext.trans' ?_ (by assumption))))) (C1.out _ (HS.out.ext (by exact (by repeat (first | exact Below.refl _ _ | refine Ext.al ?_ _ | refine Ext.dr ?_ | refine Ext.drN ?_ _ | refine Ext.gr ?_ _ | refine Ext.set ?_ (by simp) _ | (refine Ext.trans' ?_ (by assumption))))))) (fun _ _ ⟨_, _, r, _⟩ => r) fun _ g19 hgr hr => ?_
    obtain ⟨v1, rfl, -, hv1⟩ := hr
    clear hgr
    obtain ⟨va, vcap, rfl, -⟩ := hv1.spec
    have HV := Lib.hid hv1
    clear hv1

    go_wp2_with fail
    refine callWR (W0 := W0) (g := g19) (by exact (by repeat (first | exact Below.refl _ _ | refine Ext.al ?_ _ | refine Ext.dr ?_ | refine Ext.drN ?_ _ | refine Ext.gr ?_ _ | refine Ext.set ?_ (by simp) _ | (refine Ext.trans' ?_ (by assumption))))) (C2.out _ (HS.out.ext (by exact (by repeat (first | exact Below.refl _ _ | refine Ext.al ?_ _ | refine Ext.dr ?_ | refine Ext.drN ?_ _ | refine Ext.gr ?_ _ | refine Ext.set ?_ (by simp) _ | (refine Ext.trans' ?_ (by assumption))))))) (fun _ _ ⟨_, _, _, r, _⟩ => r) fun _ g20 hgr hr => ?_
    obtain ⟨v2, r, rfl, -, hv2, hr⟩ := hr
    replace HV := Lib.hid (HV.out.ext hgr)
    clear hgr
    have hr' := hr.2 HR0.out
    subst hr'
    obtain ⟨wa, wcap, rfl, -⟩ := hv2.spec
    clear hv2 hr
    simp only [List.length_nil]
    go_wp2_with fail
    refine callW (W0 := W0) (g := g20) (by exact (by repeat (first | exact Below.refl _ _ | refine Ext.al ?_ _ | refine Ext.dr ?_ | refine Ext.drN ?_ _ | refine Ext.gr ?_ _ | refine Ext.set ?_ (by simp) _ | (refine Ext.trans' ?_ (by assumption))))) (C3.out _ _ (HS.out.ext (by exact (by repeat (first | exact Below.refl _ _ | refine Ext.al ?_ _ | refine Ext.dr ?_ | refine Ext.drN ?_ _ | refine Ext.gr ?_ _ | refine Ext.set ?_ (by simp) _ | (refine Ext.trans' ?_ (by assumption)))))) (oneRng _ (HL.out.ext (by exact (by repeat (first | exact Below.refl _ _ | refine Ext.al ?_ _ | refine Ext.dr ?_ | refine Ext.drN ?_ _ | refine Ext.gr ?_ _ | refine Ext.set ?_ (by simp) _ | (refine Ext.trans' ?_ (by assumption)))))))) fun g21 hgr => ?_
    replace HV := Lib.hid (HV.out.ext hgr)
    clear hgr
    go_wp2_with fail
    refine callW (W0 := W0) (g := g21) (by exact (by repeat (first | exact Below.refl _ _ | refine Ext.al ?_ _ | refine Ext.dr ?_ | refine Ext.drN ?_ _ | refine Ext.gr ?_ _ | refine Ext.set ?_ (by simp) _ | (refine Ext.trans' ?_ (by assumption))))) (C4.out _ (HS.out.ext (by exact (by repeat (first | exact Below.refl _ _ | refine Ext.al ?_ _ | refine Ext.dr ?_ | refine Ext.drN ?_ _ | refine Ext.gr ?_ _ | refine Ext.set ?_ (by simp) _ | (refine Ext.trans' ?_ (by assumption)))))) (HT.out.ext (by exact (by repeat (first | exact Below.refl _ _ | refine Ext.al ?_ _ | refine Ext.dr ?_ | refine Ext.drN ?_ _ | refine Ext.gr ?_ _ | refine Ext.set ?_ (by simp) _ | (refine Ext.trans' ?_ (by assumption))))))) fun g22 hgr => ?_
    replace HV := Lib.hid (HV.out.ext hgr)
    clear hgr
    go_wp2_with fail
    refine callW (W0 := W0) (g := g22) (by exact (by repeat (first | exact Below.refl _ _ | refine Ext.al ?_ _ | refine Ext.dr ?_ | refine Ext.drN ?_ _ | refine Ext.gr ?_ _ | refine Ext.set ?_ (by simp) _ | (refine Ext.trans' ?_ (by assumption))))) (C5.out _ (HS.out.ext (by exact (by repeat (first | exact Below.refl _ _ | refine Ext.al ?_ _ | refine Ext.dr ?_ | refine Ext.drN ?_ _ | refine Ext.gr ?_ _ | refine Ext.set ?_ (by simp) _ | (refine Ext.trans' ?_ (by assumption)))))) (HL.out.ext (by exact (by repeat (first | exact Below.refl _ _ | refine Ext.al ?_ _ | refine Ext.dr ?_ | refine Ext.drN ?_ _ | refine Ext.gr ?_ _ | refine Ext.set ?_ (by simp) _ | (refine Ext.trans' ?_ (by assumption))))))) fun g23 hgr => ?_
    replace HV := Lib.hid (HV.out.ext hgr)
    clear hgr
    have c6 := fun w hs ht => checkTruth_any h (.slice sa h.cs.length cap) (.slice va (truthL h).length vcap) (truthL h) w hs ht
    have c7 := fun w hs ht => checkTruthR_any h (.slice sa h.cs.length cap) (.slice va (truthL h).length vcap) (truthL h) w hs ht
    rw [HTR.out] at c6 c7
    have C6 := Lib.hid c6
    have C7 := Lib.hid c7
    clear c6 c7
    go_wp2_with fail
    refine callW (W0 := W0) (g := g23) (by exact (by repeat (first | exact Below.refl _ _ | refine Ext.al ?_ _ | refine Ext.dr ?_ | refine Ext.drN ?_ _ | refine Ext.gr ?_ _ | refine Ext.set ?_ (by simp) _ | (refine Ext.trans' ?_ (by assumption))))) (C6.out _ (HS.out.ext (by exact (by repeat (first | exact Below.refl _ _ | refine Ext.al ?_ _ | refine Ext.dr ?_ | refine Ext.drN ?_ _ | refine Ext.gr ?_ _ | refine Ext.set ?_ (by simp) _ | (refine Ext.trans' ?_ (by assumption)))))) (HV.out.ext (by exact (by repeat (first | exact Below.refl _ _ | refine Ext.al ?_ _ | refine Ext.dr ?_ | refine Ext.drN ?_ _ | refine Ext.gr ?_ _ | refine Ext.set ?_ (by simp) _ | (refine Ext.trans' ?_ (by assumption))))))) fun g24 hgr => ?_
    replace HV := Lib.hid (HV.out.ext hgr)
    clear hgr
    go_wp2_with fail
    refine callW (W0 := W0) (g := g24) (by exact (by repeat (first | exact Below.refl _ _ | refine Ext.al ?_ _ | refine Ext.dr ?_ | refine Ext.drN ?_ _ | refine Ext.gr ?_ _ | refine Ext.set ?_ (by simp) _ | (refine Ext.trans' ?_ (by assumption))))) (C7.out _ (HS.out.ext (by exact (by repeat (first | exact Below.refl _ _ | refine Ext.al ?_ _ | refine Ext.dr ?_ | refine Ext.drN ?_ _ | refine Ext.gr ?_ _ | refine Ext.set ?_ (by simp) _ | (refine Ext.trans' ?_ (by assumption)))))) (HV.out.ext (by exact (by repeat (first | exact Below.refl _ _ | refine Ext.al ?_ _ | refine Ext.dr ?_ | refine Ext.drN ?_ _ | refine Ext.gr ?_ _ | refine Ext.set ?_ (by simp) _ | (refine Ext.trans' ?_ (by assumption))))))) fun g25 hgr => ?_
    replace HV := Lib.hid (HV.out.ext hgr)
    clear hgr
    go_wp2_with fail
    refine callW (W0 := W0) (g := g25) (by exact (by repeat (first | exact Below.refl _ _ | refine Ext.al ?_ _ | refine Ext.dr ?_ | refine Ext.drN ?_ _ | refine Ext.gr ?_ _ | refine Ext.set ?_ (by simp) _ | (refine Ext.trans' ?_ (by assumption))))) (works_any _) fun g26 hgr => ?_
    replace HV := Lib.hid (HV.out.ext hgr)
    clear hgr
    go_wp2_with fail
    go_ret
    exact ⟨rfl, HW.out.trans' (grow_below W0 g26)⟩

open Go.ChangeShapes Go.WideShapes Go.ChangeAt in
set_option maxRecDepth 100000 in
theorem cutEither_lifted (os : Os) (started : os.Started) (H : Type) (enc : TypeId × Value → H) :
    ReturnsInHanded {} Try.checked os 8 .any (Rows.cutEitherSpec.pre6 enc Try.prog Try.f8 Rows.cutEitherRow.domain false) (Rows.cutEitherSpec.post enc Try.prog Try.f8 false true false false) := by
  refine returnsInHanded_of_change (C := Try.checked) own started (by kernel_rfl) Try.func8
    (ChangeSpec.witness6 (enc := enc) (C := Try.checked) false ⟨#[], #[.agg #[.int .i64 0, .int .i64 0, .slice none 0 0], .slice none 0 0, .slice none 0 0], []⟩ 8 (by kernel_rfl) (by kernel_rfl) (by kernel_rfl) (by kernel_rfl)) ?_
  intro W base args ds gs before hval0 hW hcnd _
  have hval : ∀ (j : Nat) t v, Try.f8.params[j]? = some t → args[j]? = some v → Value.okWide Try.prog W .any base t v := hval0
  have hW' := hW
  obtain ⟨p, q, hA0, hV, rfl, hfz, hnd⟩ := hW
  have hA : DataW.TrodAll enc Try.prog W 0 (fun _ => true) true Try.f8.params.toList args.toList ds p := hA0
  rw [Try.params8] at hA hval
  obtain ⟨v0, vs0, d0, ds0, p0, q0, hargs, rfl, rfl, h0, r0⟩ := trodAll_cons hA
  obtain ⟨v1, vs1, d1, ds1, p1, q1, rfl, rfl, rfl, h1, r1⟩ := trodAll_cons r0
  obtain ⟨v2, vs2, d2, ds2, p2, q2, rfl, rfl, rfl, h2, r2⟩ := trodAll_cons r1
  obtain ⟨rfl, rfl, rfl⟩ := trodAll_nil r2
  obtain rfl : args = #[v0, v1, v2] := by cases args; simp_all
  obtain ⟨hh, shh, rfl, hhh⟩ := openHall (hval 0 24 v0 rfl rfl) h0
  obtain ⟨t, ht, wt⟩ := openNums Try.underlying25 Try.underlying2 (by kernel_rfl) (hval 1 25 v1 rfl rfl) h1
  obtain ⟨l, hl⟩ := openSteps (hval 2 39 v2 rfl rfl) h2
  clear hA0 hval0
  refine (cutEither_any hh shh v1 t v2 l W hhh ht hl).mono fun e W' ⟨he, hb⟩ => ?_
  subst he
  exact ⟨_, rfl, law_post laidOut (tb := 4) (hts_of (by kernel_rfl)) (by kernel_rfl) Try.underlying4 hW' rfl rfl hb⟩
theorem cutEither_holds : Rows.CutEitherSaid :=
  OpenClaim.holds_of_wide 8 Try.f8 rfl rfl rfl rfl rfl rfl rfl ⟨rfl, rfl, rfl, rfl, rfl⟩ rfl rfl rfl rfl rfl (by kernel_rfl) Try.func8 (by kernel_rfl)
    (of_decide_eq_true (by kernel_rfl)) (by unfold Func.isWrapper; first | (rw [if_pos (by decide +kernel)]; kernel_rfl) | (rw [if_neg (by decide +kernel)]; exact ⟨rfl, rfl⟩))
    (fun os started H enc _ => cutEither_lifted os started H enc)
end Go.Proofs.Ytgcldgchhdjnhaa
