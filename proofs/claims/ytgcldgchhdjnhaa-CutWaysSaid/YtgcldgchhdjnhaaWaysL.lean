/-
  The statement CutWays holds: the sum of a way, as the program says it, is what the definition says, or the error; a way that is returned is one, and has the least sum; for every hall, any two places and any steps that are handed in. No condition.
-/
import Derived.Test.YtgcldgchhdjnhaaLawG
import Derived.Test.YtgcldgchhdjnhaaOpenA
import Derived.Test.YtgcldgchhdjnhaaRefS
namespace Go.Proofs.Ytgcldgchhdjnhaa
open Go.RowKit Go.Shelf
set_option maxRecDepth 100000 in
set_option maxHeartbeats 4000000 in
theorem cutWays_any (h : Hall) (sv : Value) (f t : Int) (lv : Value) (l : List Stp) (w : World) (hs : IsCnts w sv h.cs) (hl : IsStps w lv l) :
    Calls Try.prog 5 #[.agg #[.int .i64 h.n, .int .i64 h.most, sv], .int .i64 f, .int .i64 t, lv] w fun e w' => e = .returned (.bool true) ∧ Ext w w' := by
  obtain ⟨sa, cap, rfl, hl1, hl2, -⟩ := hs.spec
  obtain ⟨la, lcap, rfl, hm1, hm2, -⟩ := hl.spec
  have HS0 := Lib.hid hs
  have HL0 := Lib.hid hl
  clear hs hl
  go_enter Try.func5, Try.ntmps5
  go_upto_region 1 with (fail)
  obtain ⟨W0, hW0⟩ : ∃ W0, W0 = w.alloc (.cells #[.int .i64 h.n, .int .i64 h.most, .slice sa h.cs.length cap] 24) := ⟨_, rfl⟩
  have hE : Ext w W0 := by rw [hW0]; exact (by repeat (first | exact Below.refl _ _ | refine Ext.al ?_ _ | refine Ext.dr ?_ | refine Ext.drN ?_ _ | refine Ext.gr ?_ _ | refine Ext.set ?_ (by simp) _ | (refine Ext.trans' ?_ (by assumption))))
  have k0 : W0.cell? ⟨w.heap.size, 0, none⟩ = some (.int .i64 h.n) := by rw [hW0]; simp [go_sem]
  have k1 : W0.cell? ⟨w.heap.size, 1, none⟩ = some (.int .i64 h.most) := by rw [hW0]; simp [go_sem]
  have k2 : W0.cell? ⟨w.heap.size, 2, none⟩ = some (.slice sa h.cs.length cap) := by rw [hW0]; simp [go_sem]
  have hz : w.heap.size < W0.heap.size := World.block_lt_of_cell? _ _ k0
  have HS := Lib.hid (HS0.out.ext hE)
  have HL := Lib.hid (HL0.out.ext hE)
  have HW := Lib.hid hE
  rw [← hW0]
  clear hW0 hE HS0 HL0
  go_wp2_with fail
  refine callW (W0 := W0) (g := ⟨W0, Below.refl _ _⟩) (by exact Below.refl _ _) (great_any h _ _ HS.out) fun g1 hgr => ?_
  clear hgr
  by_cases hg : 20 < h.cs.length
  · rw [decide_eq_true hg]
    go_wp2_with fail
    refine callW (W0 := W0) (g := g1) (by exact (by repeat (first | exact Below.refl _ _ | refine Ext.al ?_ _ | refine Ext.dr ?_ | refine Ext.drN ?_ _ | refine Ext.gr ?_ _ | refine Ext.set ?_ (by simp) _ | (refine Ext.trans' ?_ (by assumption))))) (works_any _) fun gz hgr => ?_
    go_wp2_with fail
    go_ret
    exact ⟨rfl, HW.out.trans' (grow_below W0 gz)⟩
  rw [decide_eq_false hg]
  clear hg
  go_wp2_with fail
  refine callW (W0 := W0) (g := g1) (by exact (by repeat (first | exact Below.refl _ _ | refine Ext.al ?_ _ | refine Ext.dr ?_ | refine Ext.drN ?_ _ | refine Ext.gr ?_ _ | refine Ext.set ?_ (by simp) _ | (refine Ext.trans' ?_ (by assumption))))) (long_any l _ _ (HL.out.ext (by exact (by repeat (first | exact Below.refl _ _ | refine Ext.al ?_ _ | refine Ext.dr ?_ | refine Ext.drN ?_ _ | refine Ext.gr ?_ _ | refine Ext.set ?_ (by simp) _ | (refine Ext.trans' ?_ (by assumption))))))) fun g2 hgr => ?_
  clear hgr
  cases longB l
  case true =>
    go_wp2_with fail
    refine callW (W0 := W0) (g := g2) (by exact (by repeat (first | exact Below.refl _ _ | refine Ext.al ?_ _ | refine Ext.dr ?_ | refine Ext.drN ?_ _ | refine Ext.gr ?_ _ | refine Ext.set ?_ (by simp) _ | (refine Ext.trans' ?_ (by assumption))))) (works_any _) fun gz hgr => ?_
    go_wp2_with fail
    go_ret
    exact ⟨rfl, HW.out.trans' (grow_below W0 gz)⟩
  obtain ⟨a, ha⟩ : ∃ a, a = (wayE h f t l).1 := ⟨_, rfl⟩
  obtain ⟨b, hb⟩ : ∃ b, b = (wayE h f t l).2 := ⟨_, rfl⟩
  have c1 := fun w hs hl => checkWay_any h (.slice sa h.cs.length cap) (.slice la l.length lcap) f t l w hs hl
  have c2 := fun w hs hl => checkWayR_any h (.slice sa h.cs.length cap) (.slice la l.length lcap) f t l w hs hl
  rw [← ha, ← hb] at c1 c2
  have C1 := Lib.hid c1
  have C2 := Lib.hid c2
  clear c1 c2 ha hb
  go_wp2_with fail
  refine callW (W0 := W0) (g := g2) (by exact (by repeat (first | exact Below.refl _ _ | refine Ext.al ?_ _ | refine Ext.dr ?_ | refine Ext.drN ?_ _ | refine Ext.gr ?_ _ | refine Ext.set ?_ (by simp) _ | (refine Ext.trans' ?_ (by assumption))))) (C1.out _ (HS.out.ext (by exact (by repeat (first | exact Below.refl _ _ | refine Ext.al ?_ _ | refine Ext.dr ?_ | refine Ext.drN ?_ _ | refine Ext.gr ?_ _ | refine Ext.set ?_ (by simp) _ | (refine Ext.trans' ?_ (by assumption)))))) (HL.out.ext (by exact (by repeat (first | exact Below.refl _ _ | refine Ext.al ?_ _ | refine Ext.dr ?_ | refine Ext.drN ?_ _ | refine Ext.gr ?_ _ | refine Ext.set ?_ (by simp) _ | (refine Ext.trans' ?_ (by assumption))))))) fun g3 hgr => ?_
  clear hgr
  go_wp2_with fail
  refine callW (W0 := W0) (g := g3) (by exact (by repeat (first | exact Below.refl _ _ | refine Ext.al ?_ _ | refine Ext.dr ?_ | refine Ext.drN ?_ _ | refine Ext.gr ?_ _ | refine Ext.set ?_ (by simp) _ | (refine Ext.trans' ?_ (by assumption))))) (C2.out _ (HS.out.ext (by exact (by repeat (first | exact Below.refl _ _ | refine Ext.al ?_ _ | refine Ext.dr ?_ | refine Ext.drN ?_ _ | refine Ext.gr ?_ _ | refine Ext.set ?_ (by simp) _ | (refine Ext.trans' ?_ (by assumption)))))) (HL.out.ext (by exact (by repeat (first | exact Below.refl _ _ | refine Ext.al ?_ _ | refine Ext.dr ?_ | refine Ext.drN ?_ _ | refine Ext.gr ?_ _ | refine Ext.set ?_ (by simp) _ | (refine Ext.trans' ?_ (by assumption))))))) fun g4 hgr => ?_
  clear hgr
  obtain ⟨e, he⟩ : ∃ e, e = wayErr h f t := ⟨_, rfl⟩
  go_wp2_with fail
  refine callWR (W0 := W0) (g := g4) (by exact (by repeat (first | exact Below.refl _ _ | refine Ext.al ?_ _ | refine Ext.dr ?_ | refine Ext.drN ?_ _ | refine Ext.gr ?_ _ | refine Ext.set ?_ (by simp) _ | (refine Ext.trans' ?_ (by assumption))))) (way_fin h _ f t _ (HS.out.ext (by exact (by repeat (first | exact Below.refl _ _ | refine Ext.al ?_ _ | refine Ext.dr ?_ | refine Ext.drN ?_ _ | refine Ext.gr ?_ _ | refine Ext.set ?_ (by simp) _ | (refine Ext.trans' ?_ (by assumption))))))) (fun _ _ r => r.ext) fun _ g5 hgr hr => ?_
  obtain ⟨pv, p, rfl, -, hp, hWO⟩ := hr
  rw [← he]
  obtain ⟨pa, pcap, rfl, -⟩ := hp.spec
  have HP := Lib.hid hp
  have HWO := Lib.hid hWO
  have HEQ := Lib.hid he
  have c5 := fun w hs => wayError_any h (.slice sa h.cs.length cap) f t w hs
  rw [← wayErr_eq, ← he] at c5
  have C5 := Lib.hid c5
  clear hgr hp hWO he c5
  go_wp2_with fail
  refine callW (W0 := W0) (g := g5) (by exact (by repeat (first | exact Below.refl _ _ | refine Ext.al ?_ _ | refine Ext.dr ?_ | refine Ext.drN ?_ _ | refine Ext.gr ?_ _ | refine Ext.set ?_ (by simp) _ | (refine Ext.trans' ?_ (by assumption))))) (C5.out _ (HS.out.ext (by exact (by repeat (first | exact Below.refl _ _ | refine Ext.al ?_ _ | refine Ext.dr ?_ | refine Ext.drN ?_ _ | refine Ext.gr ?_ _ | refine Ext.set ?_ (by simp) _ | (refine Ext.trans' ?_ (by assumption))))))) fun g6 hgr => ?_
  replace HP := Lib.hid (HP.out.ext hgr)
  clear hgr
  by_cases h0 : e = 0
  · have he' : (e == 0) = true := by rw [h0]; rfl
    have hwe : wayErr h f t = 0 := by rw [← HEQ.out]; exact h0
    obtain ⟨v, q1, q2, q3, q4, q5⟩ := wayErr_ok hwe
    obtain ⟨r1, r2, r3⟩ := HWO.out.1 hwe
    obtain ⟨F, rfl⟩ : ∃ F : Nat, f = F := ⟨f.toNat, by omega⟩
    obtain ⟨T, rfl⟩ : ∃ T : Nat, t = T := ⟨t.toNat, by omega⟩
    have ho : openE h [(F : Int), (T : Int)] = 0 := by
      unfold wayErr at hwe
      by_cases hh : openE h [(F : Int), (T : Int)] = 0
      · exact hh
      · rw [if_pos hh] at hwe; exact hwe
    have hce := wayE_of ho (by omega) r1
    simp only [Int.toNat_natCast] at r2 q5
    have hlr := (leastR_eq v (st := F) q2).2 q5 T (by omega)
    have hll := leastR_len v F
    obtain ⟨s, hs⟩ : ∃ s, s = (leastM h F).1.sums T := ⟨_, rfl⟩
    rw [r2, ← hs] at hce
    rw [← hs] at hlr
    have c6 := fun w hs => leastR_any h (.slice sa h.cs.length cap) v F q2 w hs
    have c7 := fun w hs hl => checkWayR_any h (.slice sa h.cs.length cap) (.slice pa p.length pcap) (F : Int) (T : Int) p w hs hl
    rw [hce] at c7
    simp only at c7
    obtain ⟨L, hL0⟩ : ∃ L, L = (leastR h F).1 := ⟨_, rfl⟩
    rw [← hL0] at c6 hlr hll
    have C6 := Lib.hid c6
    have C7 := Lib.hid c7
    have HLR := Lib.hid hlr
    have HLL := Lib.hid hll
    have hTn : (T : Int) ≤ h.n := q4
    clear c6 c7 hce hlr hll hL0 hs r1 r2 r3 q1 q2 q3 q4 q5 ho hwe v h0 HWO HEQ
    go_wp2_with fail
    refine callWR (W0 := W0) (g := g6) (by exact (by repeat (first | exact Below.refl _ _ | refine Ext.al ?_ _ | refine Ext.dr ?_ | refine Ext.drN ?_ _ | refine Ext.gr ?_ _ | refine Ext.set ?_ (by simp) _ | (refine Ext.trans' ?_ (by assumption))))) (C6.out _ (HS.out.ext (by exact (by repeat (first | exact Below.refl _ _ | refine Ext.al ?_ _ | refine Ext.dr ?_ | refine Ext.drN ?_ _ | refine Ext.gr ?_ _ | refine Ext.set ?_ (by simp) _ | (refine Ext.trans' ?_ (by assumption))))))) (fun _ _ ⟨_, _, r, _⟩ => r) fun _ g7 hgr hr => ?_
    obtain ⟨lv2, rfl, -, hL⟩ := hr
    obtain ⟨lla, llc, rfl, -, -, hcs⟩ := hL.spec
    replace HP := Lib.hid (HP.out.ext hgr)
    have hTl : T < L.length := by have := HLL.out; omega
    rcases hcs with hcs | ⟨lb, lo, rfl, hcs⟩
    · rw [hcs] at hTl; simp at hTl
    have hct := hcs T hTl
    have hlT : L[T] = s := by
      have := HLR.out
      rw [getD_lt hTl] at this
      exact this
    rw [hlT] at hct
    have hTl' : (T : Int) < L.length := by omega
    clear hgr hL hcs hlT
    go_wp2_with fail
    refine callW (W0 := W0) (g := g7) (by exact (by repeat (first | exact Below.refl _ _ | refine Ext.al ?_ _ | refine Ext.dr ?_ | refine Ext.drN ?_ _ | refine Ext.gr ?_ _ | refine Ext.set ?_ (by simp) _ | (refine Ext.trans' ?_ (by assumption))))) (C7.out _ (HS.out.ext (by exact (by repeat (first | exact Below.refl _ _ | refine Ext.al ?_ _ | refine Ext.dr ?_ | refine Ext.drN ?_ _ | refine Ext.gr ?_ _ | refine Ext.set ?_ (by simp) _ | (refine Ext.trans' ?_ (by assumption)))))) (HP.out.ext (by exact (by repeat (first | exact Below.refl _ _ | refine Ext.al ?_ _ | refine Ext.dr ?_ | refine Ext.drN ?_ _ | refine Ext.gr ?_ _ | refine Ext.set ?_ (by simp) _ | (refine Ext.trans' ?_ (by assumption))))))) fun g8 hgr => ?_
    replace hct := cell_ext hgr hct
    clear hgr
    go_wp2_with fail
    refine callW (W0 := W0) (g := g8) (by exact (by repeat (first | exact Below.refl _ _ | refine Ext.al ?_ _ | refine Ext.dr ?_ | refine Ext.drN ?_ _ | refine Ext.gr ?_ _ | refine Ext.set ?_ (by simp) _ | (refine Ext.trans' ?_ (by assumption))))) (works_any _) fun gz hgr => ?_
    go_wp2_with fail
    go_ret
    exact ⟨rfl, HW.out.trans' (grow_below W0 gz)⟩
  · have he' : (e == 0) = false := by simpa using h0
    have hp0 : p = [] := HWO.out.2 (by rw [← HEQ.out]; exact h0)
    subst hp0
    simp only [List.length_nil] at HP ⊢
    clear h0
    go_wp2_with fail
    refine callW (W0 := W0) (g := g6) (by exact (by repeat (first | exact Below.refl _ _ | refine Ext.al ?_ _ | refine Ext.dr ?_ | refine Ext.drN ?_ _ | refine Ext.gr ?_ _ | refine Ext.set ?_ (by simp) _ | (refine Ext.trans' ?_ (by assumption))))) (works_any _) fun gz hgr => ?_
    go_wp2_with fail
    go_ret
    exact ⟨rfl, HW.out.trans' (grow_below W0 gz)⟩
open Go.ChangeShapes Go.WideShapes Go.ChangeAt in
set_option maxRecDepth 100000 in
theorem cutWays_lifted (os : Os) (started : os.Started) (H : Type) (enc : TypeId × Value → H) :
    ReturnsInHanded {} Try.checked os 5 .any (Rows.cutWaysSpec.pre6 enc Try.prog Try.f5 Rows.cutWaysRow.domain false) (Rows.cutWaysSpec.post enc Try.prog Try.f5 false true false false) := by
  refine returnsInHanded_of_change (C := Try.checked) own started (by kernel_rfl) Try.func5
    (ChangeSpec.witness6 (enc := enc) (C := Try.checked) false ⟨#[], #[.agg #[.int .i64 0, .int .i64 0, .slice none 0 0], .int .i64 0, .int .i64 0, .slice none 0 0], []⟩ 8 (by kernel_rfl) (by kernel_rfl) (by kernel_rfl) (by kernel_rfl)) ?_
  intro W base args ds gs before hval0 hW hcnd _
  have hval : ∀ (j : Nat) t v, Try.f5.params[j]? = some t → args[j]? = some v → Value.okWide Try.prog W .any base t v := hval0
  have hW' := hW
  obtain ⟨p, q, hA0, hV, rfl, hfz, hnd⟩ := hW
  have hA : DataW.TrodAll enc Try.prog W 0 (fun _ => true) true Try.f5.params.toList args.toList ds p := hA0
  rw [Try.params5] at hA hval
  obtain ⟨v0, vs0, d0, ds0, p0, q0, hargs, rfl, rfl, h0, r0⟩ := trodAll_cons hA
  obtain ⟨v1, vs1, d1, ds1, p1, q1, rfl, rfl, rfl, h1, r1⟩ := trodAll_cons r0
  obtain ⟨v2, vs2, d2, ds2, p2, q2, rfl, rfl, rfl, h2, r2⟩ := trodAll_cons r1
  obtain ⟨v3, vs3, d3, ds3, p3, q3, rfl, rfl, rfl, h3, r3⟩ := trodAll_cons r2
  obtain ⟨rfl, rfl, rfl⟩ := trodAll_nil r3
  obtain rfl : args = #[v0, v1, v2, v3] := by cases args; simp_all
  obtain ⟨hh, shh, rfl, hhh⟩ := openHall (hval 0 24 v0 rfl rfl) h0
  obtain ⟨f, rfl, rfl, rfl, wf⟩ := open_int Try.underlying3 (hval 1 3 v1 rfl rfl) h1
  obtain ⟨t, rfl, rfl, rfl, wt⟩ := open_int Try.underlying3 (hval 2 3 v2 rfl rfl) h2
  obtain ⟨l, hl⟩ := openSteps (hval 3 39 v3 rfl rfl) h3
  clear hA0 hval0
  refine (cutWays_any hh shh f t v3 l W hhh hl).mono fun e W' ⟨he, hb⟩ => ?_
  subst he
  exact ⟨_, rfl, law_post laidOut (tb := 4) (hts_of (by kernel_rfl)) (by kernel_rfl) Try.underlying4 hW' rfl rfl hb⟩
theorem cutWays_holds : Rows.CutWaysSaid :=
  OpenClaim.holds_of_wide 5 Try.f5 rfl rfl rfl rfl rfl rfl rfl ⟨rfl, rfl, rfl, rfl, rfl⟩ rfl rfl rfl rfl rfl (by kernel_rfl) Try.func5 (by kernel_rfl)
    (of_decide_eq_true (by kernel_rfl)) (by unfold Func.isWrapper; first | (rw [if_pos (by decide +kernel)]; kernel_rfl) | (rw [if_neg (by decide +kernel)]; exact ⟨rfl, rfl⟩))
    (fun os started H enc _ => cutWays_lifted os started H enc)
end Go.Proofs.Ytgcldgchhdjnhaa
