/-
  The statement CutRings holds: how many rings are apart, and whether there is a ring, as the program says it, are what the definitions say, or the error; one that is returned is one; for every hall and any lists of steps that are handed in. No condition.
-/
import Derived.Test.YtgcldgchhdjnhaaLawG
import Derived.Test.YtgcldgchhdjnhaaOpenA
import Derived.Test.YtgcldgchhdjnhaaRefS
import Derived.Test.YtgcldgchhdjnhaaMath2
namespace Go.Proofs.Ytgcldgchhdjnhaa
open Go.RowKit Go.Shelf
theorem ringErr_bad {h : Hall} (hc : ¬ chk h = 0) : ringErr h = chk h := by unfold ringErr; rw [if_pos hc]
theorem ringErr_agr {h : Hall} (hc : chk h = 0) (e : (leastM h 0).2 = true) : ringErr h = 11 := by unfold ringErr; rw [if_neg (fun hh => hh hc), e]; rfl
theorem ringErr_not {h : Hall} (hc : chk h = 0) (e : (leastM h 0).2 = false) : ringErr h = 0 := by unfold ringErr; rw [if_neg (fun hh => hh hc), e]; rfl
set_option maxRecDepth 100000 in
set_option maxHeartbeats 4000000 in
theorem cutRings_any (h : Hall) (sv : Value) (rv : Value) (ps : List (Value × List Stp)) (w : World) (hs : IsCnts w sv h.cs) (hr : IsRngs w rv ps) :
    Calls Try.prog 6 #[.agg #[.int .i64 h.n, .int .i64 h.most, sv], rv] w fun e w' => e = .returned (.bool true) ∧ Ext w w' := by
  obtain ⟨sa, cap, rfl, hl1, hl2, -⟩ := hs.spec
  obtain ⟨ra, rcap, rfl, hm1, hm2, -⟩ := hr.spec
  have HS0 := Lib.hid hs
  have HR0 := Lib.hid hr
  clear hs hr
  go_enter Try.func6, Try.ntmps6
  go_upto_region 1 with (fail)
  obtain ⟨W0, hW0⟩ : ∃ W0, W0 = w.alloc (.cells #[.int .i64 h.n, .int .i64 h.most, .slice sa h.cs.length cap] 24) := ⟨_, rfl⟩
  have hE : Ext w W0 := by rw [hW0]; exact (by repeat (first | exact Below.refl _ _ | refine Ext.al ?_ _ | refine Ext.dr ?_ | refine Ext.drN ?_ _ | refine Ext.gr ?_ _ | refine Ext.set ?_ (by simp) _ | (refine Ext.trans' ?_ (by assumption))))
  have k0 : W0.cell? ⟨w.heap.size, 0, none⟩ = some (.int .i64 h.n) := by rw [hW0]; simp [go_sem]
  have k1 : W0.cell? ⟨w.heap.size, 1, none⟩ = some (.int .i64 h.most) := by rw [hW0]; simp [go_sem]
  have k2 : W0.cell? ⟨w.heap.size, 2, none⟩ = some (.slice sa h.cs.length cap) := by rw [hW0]; simp [go_sem]
  have hz : w.heap.size < W0.heap.size := World.block_lt_of_cell? _ _ k0
  have HS := Lib.hid (HS0.out.ext hE)
  have HW := Lib.hid hE
  rw [← hW0]
  clear hW0 HS0
  have HR := Lib.hid (HR0.out.ext hE)
  clear hE HR0

  go_wp2_with fail
  refine callW (W0 := W0) (g := ⟨W0, Below.refl _ _⟩) (by exact (by repeat (first | exact Below.refl _ _ | refine Ext.al ?_ _ | refine Ext.dr ?_ | refine Ext.drN ?_ _ | refine Ext.gr ?_ _ | refine Ext.set ?_ (by simp) _ | (refine Ext.trans' ?_ (by assumption))))) (great_any h _ _ (HS.out.ext (by exact (by repeat (first | exact Below.refl _ _ | refine Ext.al ?_ _ | refine Ext.dr ?_ | refine Ext.drN ?_ _ | refine Ext.gr ?_ _ | refine Ext.set ?_ (by simp) _ | (refine Ext.trans' ?_ (by assumption))))))) fun g1 hgr => ?_
  clear hgr
  by_cases hg : 20 < h.cs.length
  · rw [decide_eq_true hg]

    go_wp2_with fail
    refine callW (W0 := W0) (g := g1) (by exact (by repeat (first | exact Below.refl _ _ | refine Ext.al ?_ _ | refine Ext.dr ?_ | refine Ext.drN ?_ _ | refine Ext.gr ?_ _ | refine Ext.set ?_ (by simp) _ | (refine Ext.trans' ?_ (by assumption))))) (works_any _) fun g2 hgr => ?_
    clear hgr
    go_wp2_with fail
    go_ret
    exact ⟨rfl, HW.out.trans' (grow_below W0 g2)⟩

  rw [decide_eq_false hg]
  clear hg
  go_wp2_with fail
  refine callW (W0 := W0) (g := g1) (by exact (by repeat (first | exact Below.refl _ _ | refine Ext.al ?_ _ | refine Ext.dr ?_ | refine Ext.drN ?_ _ | refine Ext.gr ?_ _ | refine Ext.set ?_ (by simp) _ | (refine Ext.trans' ?_ (by assumption))))) (several_any ps _ _ (HR.out.ext (by exact (by repeat (first | exact Below.refl _ _ | refine Ext.al ?_ _ | refine Ext.dr ?_ | refine Ext.drN ?_ _ | refine Ext.gr ?_ _ | refine Ext.set ?_ (by simp) _ | (refine Ext.trans' ?_ (by assumption))))))) fun g3 hgr => ?_
  clear hgr
  cases severalB (ps.map (·.2))
  case true =>

    go_wp2_with fail
    refine callW (W0 := W0) (g := g3) (by exact (by repeat (first | exact Below.refl _ _ | refine Ext.al ?_ _ | refine Ext.dr ?_ | refine Ext.drN ?_ _ | refine Ext.gr ?_ _ | refine Ext.set ?_ (by simp) _ | (refine Ext.trans' ?_ (by assumption))))) (works_any _) fun g4 hgr => ?_
    clear hgr
    go_wp2_with fail
    go_ret
    exact ⟨rfl, HW.out.trans' (grow_below W0 g4)⟩

  obtain ⟨a, ha⟩ : ∃ a, a = ringsN h (ps.map (·.2)) := ⟨_, rfl⟩
  obtain ⟨b, hb⟩ : ∃ b, b = ringsErr h (ps.map (·.2)) := ⟨_, rfl⟩
  have c1 := fun w hs hl => checkRings_any h (.slice sa h.cs.length cap) (.slice ra ps.length rcap) ps w hs hl
  have c2 := fun w hs hl => checkRingsR_any h (.slice sa h.cs.length cap) (.slice ra ps.length rcap) ps w hs hl
  rw [ringsNR, ← rings_eq, ← ringsN] at c2
  rw [← ha, ← hb] at c1 c2
  have C1 := Lib.hid c1
  have C2 := Lib.hid c2
  clear c1 c2 ha hb
  go_wp2_with fail
  refine callW (W0 := W0) (g := g3) (by exact (by repeat (first | exact Below.refl _ _ | refine Ext.al ?_ _ | refine Ext.dr ?_ | refine Ext.drN ?_ _ | refine Ext.gr ?_ _ | refine Ext.set ?_ (by simp) _ | (refine Ext.trans' ?_ (by assumption))))) (C1.out _ (HS.out.ext (by exact (by repeat (first | exact Below.refl _ _ | refine Ext.al ?_ _ | refine Ext.dr ?_ | refine Ext.drN ?_ _ | refine Ext.gr ?_ _ | refine Ext.set ?_ (by simp) _ | (refine Ext.trans' ?_ (by assumption)))))) (HR.out.ext (by exact (by repeat (first | exact Below.refl _ _ | refine Ext.al ?_ _ | refine Ext.dr ?_ | refine Ext.drN ?_ _ | refine Ext.gr ?_ _ | refine Ext.set ?_ (by simp) _ | (refine Ext.trans' ?_ (by assumption))))))) fun g5 hgr => ?_
  clear hgr
  go_wp2_with fail
  refine callW (W0 := W0) (g := g5) (by exact (by repeat (first | exact Below.refl _ _ | refine Ext.al ?_ _ | refine Ext.dr ?_ | refine Ext.drN ?_ _ | refine Ext.gr ?_ _ | refine Ext.set ?_ (by simp) _ | (refine Ext.trans' ?_ (by assumption))))) (C2.out _ (HS.out.ext (by exact (by repeat (first | exact Below.refl _ _ | refine Ext.al ?_ _ | refine Ext.dr ?_ | refine Ext.drN ?_ _ | refine Ext.gr ?_ _ | refine Ext.set ?_ (by simp) _ | (refine Ext.trans' ?_ (by assumption)))))) (HR.out.ext (by exact (by repeat (first | exact Below.refl _ _ | refine Ext.al ?_ _ | refine Ext.dr ?_ | refine Ext.drN ?_ _ | refine Ext.gr ?_ _ | refine Ext.set ?_ (by simp) _ | (refine Ext.trans' ?_ (by assumption))))))) fun g6 hgr => ?_
  clear hgr
  obtain ⟨c, hc⟩ : ∃ c, c = chk h := ⟨_, rfl⟩
  obtain ⟨e, he⟩ : ∃ e, e = ringErr h := ⟨_, rfl⟩
  have c3 := fun w hs => checkHallR_any h (.slice sa h.cs.length cap) w hs
  rw [← hc] at c3
  have C3 := Lib.hid c3
  have HC := Lib.hid hc
  have HE := Lib.hid he
  clear c3 hc he
  go_wp2_with fail
  refine callWR (W0 := W0) (g := g6) (by exact (by repeat (first | exact Below.refl _ _ | refine Ext.al ?_ _ | refine Ext.dr ?_ | refine Ext.drN ?_ _ | refine Ext.gr ?_ _ | refine Ext.set ?_ (by simp) _ | (refine Ext.trans' ?_ (by assumption))))) (ring_fin h _ _ (HS.out.ext (by exact (by repeat (first | exact Below.refl _ _ | refine Ext.al ?_ _ | refine Ext.dr ?_ | refine Ext.drN ?_ _ | refine Ext.gr ?_ _ | refine Ext.set ?_ (by simp) _ | (refine Ext.trans' ?_ (by assumption))))))) (fun _ _ r => r.ext) fun _ g7 hgr hr => ?_
  obtain ⟨pv, p, rfl, -, hp, hWO⟩ := hr
  clear hgr
  rw [← HE.out]
  obtain ⟨pa, pcap, rfl, -⟩ := hp.spec
  have HP := Lib.hid hp
  have HWO := Lib.hid hWO
  clear hp hWO

  go_wp2_with fail
  refine callW (W0 := W0) (g := g7) (by exact (by repeat (first | exact Below.refl _ _ | refine Ext.al ?_ _ | refine Ext.dr ?_ | refine Ext.drN ?_ _ | refine Ext.gr ?_ _ | refine Ext.set ?_ (by simp) _ | (refine Ext.trans' ?_ (by assumption))))) (C3.out _ (HS.out.ext (by exact (by repeat (first | exact Below.refl _ _ | refine Ext.al ?_ _ | refine Ext.dr ?_ | refine Ext.drN ?_ _ | refine Ext.gr ?_ _ | refine Ext.set ?_ (by simp) _ | (refine Ext.trans' ?_ (by assumption))))))) fun g8 hgr => ?_
  replace HP := Lib.hid (HP.out.ext hgr)
  clear hgr
  by_cases h0 : c = 0
  · have hc0 : chk h = 0 := by rw [← HC.out]; exact h0
    have hc' : (c == 0) = true := by rw [h0]; rfl
    have V := Lib.hid (valid_of_chk hc0)
    have HC0 := Lib.hid hc0
    have c4 := fun w hs => agreeR_any h (.slice sa h.cs.length cap) V.out w hs
    rw [(leastR_eq V.out (st := 0) (by have := V.out.n1; omega)).1] at c4
    cases hl : (leastM h 0).2
    · have he0 : e = 0 := by rw [HE.out]; exact ringErr_not hc0 hl
      subst he0
      rw [hl] at c4
      have C4 := Lib.hid c4
      obtain ⟨q1, q2, q3⟩ := HWO.out.1 HE.out.symm
      have c5 := fun w hs hl => isRingL_any h (.slice sa h.cs.length cap) (.slice pa p.length pcap) p w hs hl
      rw [ringsErrR_one HC0.out (by omega) q2 q1] at c5
      have C5 := Lib.hid c5
      clear c4 c5 q1 q2 q3 hl h0 hc0

      go_wp2_with fail
      refine callW (W0 := W0) (g := g8) (by exact (by repeat (first | exact Below.refl _ _ | refine Ext.al ?_ _ | refine Ext.dr ?_ | refine Ext.drN ?_ _ | refine Ext.gr ?_ _ | refine Ext.set ?_ (by simp) _ | (refine Ext.trans' ?_ (by assumption))))) (C4.out _ (HS.out.ext (by exact (by repeat (first | exact Below.refl _ _ | refine Ext.al ?_ _ | refine Ext.dr ?_ | refine Ext.drN ?_ _ | refine Ext.gr ?_ _ | refine Ext.set ?_ (by simp) _ | (refine Ext.trans' ?_ (by assumption))))))) fun g9 hgr => ?_
      replace HP := Lib.hid (HP.out.ext hgr)
      clear hgr
      go_wp2_with fail
      refine callW (W0 := W0) (g := g9) (by exact (by repeat (first | exact Below.refl _ _ | refine Ext.al ?_ _ | refine Ext.dr ?_ | refine Ext.drN ?_ _ | refine Ext.gr ?_ _ | refine Ext.set ?_ (by simp) _ | (refine Ext.trans' ?_ (by assumption))))) (C5.out _ (HS.out.ext (by exact (by repeat (first | exact Below.refl _ _ | refine Ext.al ?_ _ | refine Ext.dr ?_ | refine Ext.drN ?_ _ | refine Ext.gr ?_ _ | refine Ext.set ?_ (by simp) _ | (refine Ext.trans' ?_ (by assumption)))))) (HP.out.ext (by exact (by repeat (first | exact Below.refl _ _ | refine Ext.al ?_ _ | refine Ext.dr ?_ | refine Ext.drN ?_ _ | refine Ext.gr ?_ _ | refine Ext.set ?_ (by simp) _ | (refine Ext.trans' ?_ (by assumption))))))) fun g10 hgr => ?_
      replace HP := Lib.hid (HP.out.ext hgr)
      clear hgr
      go_wp2_with fail
      refine callW (W0 := W0) (g := g10) (by exact (by repeat (first | exact Below.refl _ _ | refine Ext.al ?_ _ | refine Ext.dr ?_ | refine Ext.drN ?_ _ | refine Ext.gr ?_ _ | refine Ext.set ?_ (by simp) _ | (refine Ext.trans' ?_ (by assumption))))) (works_any _) fun g11 hgr => ?_
      replace HP := Lib.hid (HP.out.ext hgr)
      clear hgr
      go_wp2_with fail
      go_ret
      exact ⟨rfl, HW.out.trans' (grow_below W0 g11)⟩

    · have he0 : e = 11 := by rw [HE.out]; exact ringErr_agr hc0 hl
      subst he0
      rw [hl] at c4
      have C4 := Lib.hid c4
      have hp0 : p = [] := HWO.out.2 (by rw [← HE.out]; omega)
      subst hp0
      simp only [List.length_nil] at HP ⊢
      clear c4 hl h0 hc0

      go_wp2_with fail
      refine callW (W0 := W0) (g := g8) (by exact (by repeat (first | exact Below.refl _ _ | refine Ext.al ?_ _ | refine Ext.dr ?_ | refine Ext.drN ?_ _ | refine Ext.gr ?_ _ | refine Ext.set ?_ (by simp) _ | (refine Ext.trans' ?_ (by assumption))))) (C4.out _ (HS.out.ext (by exact (by repeat (first | exact Below.refl _ _ | refine Ext.al ?_ _ | refine Ext.dr ?_ | refine Ext.drN ?_ _ | refine Ext.gr ?_ _ | refine Ext.set ?_ (by simp) _ | (refine Ext.trans' ?_ (by assumption))))))) fun g12 hgr => ?_
      replace HP := Lib.hid (HP.out.ext hgr)
      clear hgr
      go_wp2_with fail
      refine callW (W0 := W0) (g := g12) (by exact (by repeat (first | exact Below.refl _ _ | refine Ext.al ?_ _ | refine Ext.dr ?_ | refine Ext.drN ?_ _ | refine Ext.gr ?_ _ | refine Ext.set ?_ (by simp) _ | (refine Ext.trans' ?_ (by assumption))))) (works_any _) fun g13 hgr => ?_
      replace HP := Lib.hid (HP.out.ext hgr)
      clear hgr
      go_wp2_with fail
      go_ret
      exact ⟨rfl, HW.out.trans' (grow_below W0 g13)⟩

  · have hc' : (c == 0) = false := by simpa using h0
    have hec : e = c := by rw [HE.out, HC.out]; exact ringErr_bad (by rw [← HC.out]; exact h0)
    subst hec
    have hp0 : p = [] := HWO.out.2 (by rw [← HE.out]; exact h0)
    subst hp0
    simp only [List.length_nil] at HP ⊢
    clear h0

    go_wp2_with fail
    refine callW (W0 := W0) (g := g8) (by exact (by repeat (first | exact Below.refl _ _ | refine Ext.al ?_ _ | refine Ext.dr ?_ | refine Ext.drN ?_ _ | refine Ext.gr ?_ _ | refine Ext.set ?_ (by simp) _ | (refine Ext.trans' ?_ (by assumption))))) (C3.out _ (HS.out.ext (by exact (by repeat (first | exact Below.refl _ _ | refine Ext.al ?_ _ | refine Ext.dr ?_ | refine Ext.drN ?_ _ | refine Ext.gr ?_ _ | refine Ext.set ?_ (by simp) _ | (refine Ext.trans' ?_ (by assumption))))))) fun g14 hgr => ?_
    replace HP := Lib.hid (HP.out.ext hgr)
    clear hgr
    go_wp2_with fail
    refine callW (W0 := W0) (g := g14) (by exact (by repeat (first | exact Below.refl _ _ | refine Ext.al ?_ _ | refine Ext.dr ?_ | refine Ext.drN ?_ _ | refine Ext.gr ?_ _ | refine Ext.set ?_ (by simp) _ | (refine Ext.trans' ?_ (by assumption))))) (works_any _) fun g15 hgr => ?_
    replace HP := Lib.hid (HP.out.ext hgr)
    clear hgr
    go_wp2_with fail
    go_ret
    exact ⟨rfl, HW.out.trans' (grow_below W0 g15)⟩

open Go.ChangeShapes Go.WideShapes Go.ChangeAt in
set_option maxRecDepth 100000 in
theorem cutRings_lifted (os : Os) (started : os.Started) (H : Type) (enc : TypeId × Value → H) :
    ReturnsInHanded {} Try.checked os 6 .any (Rows.cutRingsSpec.pre6 enc Try.prog Try.f6 Rows.cutRingsRow.domain false) (Rows.cutRingsSpec.post enc Try.prog Try.f6 false true false false) := by
  refine returnsInHanded_of_change (C := Try.checked) own started (by kernel_rfl) Try.func6
    (ChangeSpec.witness6 (enc := enc) (C := Try.checked) false ⟨#[], #[.agg #[.int .i64 0, .int .i64 0, .slice none 0 0], .slice none 0 0], []⟩ 8 (by kernel_rfl) (by kernel_rfl) (by kernel_rfl) (by kernel_rfl)) ?_
  intro W base args ds gs before hval0 hW hcnd _
  have hval : ∀ (j : Nat) t v, Try.f6.params[j]? = some t → args[j]? = some v → Value.okWide Try.prog W .any base t v := hval0
  have hW' := hW
  obtain ⟨p, q, hA0, hV, rfl, hfz, hnd⟩ := hW
  have hA : DataW.TrodAll enc Try.prog W 0 (fun _ => true) true Try.f6.params.toList args.toList ds p := hA0
  rw [Try.params6] at hA hval
  obtain ⟨v0, vs0, d0, ds0, p0, q0, hargs, rfl, rfl, h0, r0⟩ := trodAll_cons hA
  obtain ⟨v1, vs1, d1, ds1, p1, q1, rfl, rfl, rfl, h1, r1⟩ := trodAll_cons r0
  obtain ⟨rfl, rfl, rfl⟩ := trodAll_nil r1
  obtain rfl : args = #[v0, v1] := by cases args; simp_all
  obtain ⟨hh, shh, rfl, hhh⟩ := openHall (hval 0 24 v0 rfl rfl) h0
  obtain ⟨r, hr⟩ := openRings (hval 1 49 v1 rfl rfl) h1
  clear hA0 hval0
  refine (cutRings_any hh shh v1 r W hhh hr).mono fun e W' ⟨he, hb⟩ => ?_
  subst he
  exact ⟨_, rfl, law_post laidOut (tb := 4) (hts_of (by kernel_rfl)) (by kernel_rfl) Try.underlying4 hW' rfl rfl hb⟩
theorem cutRings_holds : Rows.CutRingsSaid :=
  OpenClaim.holds_of_wide 6 Try.f6 rfl rfl rfl rfl rfl rfl rfl ⟨rfl, rfl, rfl, rfl, rfl⟩ rfl rfl rfl rfl rfl (by kernel_rfl) Try.func6 (by kernel_rfl)
    (of_decide_eq_true (by kernel_rfl)) (by unfold Func.isWrapper; first | (rw [if_pos (by decide +kernel)]; kernel_rfl) | (rw [if_neg (by decide +kernel)]; exact ⟨rfl, rfl⟩))
    (fun os started H enc _ => cutRings_lifted os started H enc)
end Go.Proofs.Ytgcldgchhdjnhaa
