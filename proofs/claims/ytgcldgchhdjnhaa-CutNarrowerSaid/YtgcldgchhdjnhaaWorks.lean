/-
  The walk of Works.
-/
import Derived.Test.YtgcldgchhdjnhaaFin
import Derived.Test.YtgcldgchhdjnhaaWayCR
import Derived.Test.YtgcldgchhdjnhaaRefS
import Derived.Test.YtgcldgchhdjnhaaFollow
import Derived.OwnWalk
import Derived.Deep.Cut
namespace Go.Proofs.Ytgcldgchhdjnhaa
open Go.RowKit Go.Shelf

theorem v1 : truthE (hallX 25 26) [5, 6, 15] = 0 := by kernel_rfl
theorem v2 : truthE (hallX 25 26) [5, 8, 15] = 14 := by kernel_rfl
theorem v3 : truthErr (hallX 25 26) = 0 := by kernel_rfl
theorem v3b : truthE (hallX 25 26) (truthL (hallX 25 26)) = 0 := by kernel_rfl
theorem v4 : truthErr (hallX 40 41) = 5 := by kernel_rfl
theorem v5 : spanLo (hallX 25 26) 1 1 = 4 ∧ spanHi (hallX 25 26) 1 1 = 9 ∧ spanE (hallX 25 26) 1 1 = 0 := ⟨by kernel_rfl, by kernel_rfl, by kernel_rfl⟩
theorem v6 : wayE (hallX 25 26) 1 2 [⟨false, 1, false⟩, ⟨false, 2, true⟩, ⟨false, 0, false⟩] = (9, 0) := by kernel_rfl
theorem v7 : wayE (hallX 25 26) 1 2 [⟨false, 1, false⟩] = (0, 16) := by kernel_rfl
theorem v8 : wayErr (hallX 25 26) 2 1 = 0 ∧ (leastM (hallX 25 26) 2).1.sums 1 = -4 := ⟨by kernel_rfl, by kernel_rfl⟩
theorem v9 : ringErr (hallX 40 41) = 0 := by kernel_rfl
theorem v10 : ringErr (hallX 25 26) = 11 := by kernel_rfl
theorem v11 : ringsErr (hallX 40 41) [[⟨false, 0, false⟩, ⟨true, 1, true⟩, ⟨false, 1, false⟩, ⟨false, 2, true⟩]] = 0 := by kernel_rfl
theorem v12 : ringsErr hallK [[⟨false, 0, false⟩, ⟨false, 1, true⟩], [⟨false, 0, false⟩, ⟨false, 1, true⟩]] = 14 := by kernel_rfl
theorem v13 : chk hallK = 0 ∧ wrongL hallK = [0] := ⟨by kernel_rfl, by kernel_rfl⟩
theorem v14 : chk (hallX 40 41) = 0 ∧ listsN (hallX 40 41) = 3 := ⟨by kernel_rfl, by kernel_rfl⟩
theorem v15 : kindErr (hallX 40 41) 1 = 0 ∧ kindN (hallX 40 41) 1 = 1 := ⟨by kernel_rfl, by kernel_rfl⟩
theorem isInts_three {w : World} {b cap : Nat} {x y z : Int} (h2 : 3 ≤ cap) (h3 : cap ≤ 9223372036854775807) (c0 : w.cell? ⟨b, 0, none⟩ = some (.int .i64 x)) (c1 : w.cell? ⟨b, 1, none⟩ = some (.int .i64 y)) (c2 : w.cell? ⟨b, 2, none⟩ = some (.int .i64 z)) :
    IsInts w .i64 (.slice (some ⟨b, 0, none⟩) 3 cap) [x, y, z] :=
  IsInts.mk (l := [x, y, z]) (off := 0) h2 h3 fun i hi => match i, hi with
    | 0, _ => c0
    | 1, _ => c1
    | 2, _ => c2
    | n + 3, hi => absurd hi (by simp)

def spRngs (n : Nat) (ll : List (List Stp)) : Sp := ⟨fun v w => ∃ ps, (∃ b, v = .slice (some ⟨b, 0, none⟩) n n) ∧ IsRngs w v ps ∧ ps.map (·.2) = ll, fun _ _ _ ⟨ps, h1, h2, h3⟩ e => ⟨ps, h1, h2.ext e, h3⟩⟩
def spStps (n : Nat) (l : List Stp) : Sp := ⟨fun v w => (∃ b, v = .slice (some ⟨b, 0, none⟩) n n) ∧ IsStps w v l, fun _ _ _ h e => ⟨h.1, h.2.ext e⟩⟩
theorem isInts_one' {w : World} {b cap : Nat} {x : Int} (h2 : 1 ≤ cap) (h3 : cap ≤ 9223372036854775807) (c0 : w.cell? ⟨b, 0, none⟩ = some (.int .i64 x)) :
    IsInts w .i64 (.slice (some ⟨b, 0, none⟩) 1 cap) [x] := isInts_one h2 h3 c0
set_option maxRecDepth 100000 in
set_option maxHeartbeats 8000000 in
theorem works_any (w : World) : Calls Try.prog 18 #[] w fun e w' => e = .returned (.bool true) ∧ Ext w w' := by
  obtain ⟨H, hH⟩ : ∃ H, H = hallX 25 26 := ⟨_, rfl⟩
  obtain ⟨J, hJ⟩ : ∃ J, J = hallX 40 41 := ⟨_, rfl⟩
  obtain ⟨K, hK⟩ : ∃ K, K = hallK := ⟨_, rfl⟩
  have cH := fun w => hall_any 25 26 w
  have cJ := fun w => hall_any 40 41 w
  have cK := fun w => three_any w
  have v1 := v1
  have v2 := v2
  have v3 := v3
  have v3b := v3b
  have v4 := v4
  obtain ⟨v5a, v5b, v5c⟩ := v5
  have v6 := v6
  have v7 := v7
  obtain ⟨v8a, v8b⟩ := v8
  have v9 := v9
  have v10 := v10
  have v11 := v11
  have v12 := v12
  obtain ⟨v13a, v13b⟩ := v13
  obtain ⟨v14a, v14b⟩ := v14
  obtain ⟨v15a, v15b⟩ := v15
  rw [← hH] at cH v1 v2 v3 v3b v5a v5b v5c v6 v7 v8a v8b v10
  rw [← hJ] at cJ v4 v9 v11 v14a v14b v15a v15b
  rw [← hK] at cK v12 v13a v13b
  have V1 := Lib.hid v1
  have V2 := Lib.hid v2
  have V3 := Lib.hid v3
  have V3b := Lib.hid v3b
  have V4 := Lib.hid v4
  have V5a := Lib.hid v5a
  have V5b := Lib.hid v5b
  have V5c := Lib.hid v5c
  have V6 := Lib.hid v6
  have V7 := Lib.hid v7
  have V8a := Lib.hid v8a
  have V8b := Lib.hid v8b
  have V9 := Lib.hid v9
  have V10 := Lib.hid v10
  have V11 := Lib.hid v11
  have V12 := Lib.hid v12
  have V13a := Lib.hid v13a
  have V13b := Lib.hid v13b
  have V14a := Lib.hid v14a
  have V14b := Lib.hid v14b
  have V15a := Lib.hid v15a
  have V15b := Lib.hid v15b
  have CH := Lib.hid cH
  have CJ := Lib.hid cJ
  have CK := Lib.hid cK
  clear v1 v2 v3 v3b v4 v5a v5b v5c v6 v7 v8a v8b v9 v10 v11 v12 v13a v13b v14a v14b v15a v15b cH cJ cK hH hJ hK
  go_enter Try.func18, Try.ntmps18
  go_wp2_with fail
  refine (CH.out w).mono ?_
  rintro e W1 ⟨sh, rfl, hE1, hC1⟩
  obtain ⟨ha, hcap, rfl, -⟩ := hC1.spec
  have HC1 := Lib.hid hC1
  have HE1 := Lib.hid hE1
  clear hC1 hE1
  go_wp2_with fail
  refine (CJ.out W1).mono ?_
  rintro e W2 ⟨sj, rfl, hE2, hC2⟩
  obtain ⟨ja, jcap, rfl, -⟩ := hC2.spec
  have HC2 := Lib.hid hC2
  have HE2 := Lib.hid (HE1.out.trans' hE2)
  have HC1' := Lib.hid (HC1.out.ext hE2)
  clear hC2 hE2
  go_wp2_with fail
  refine (CK.out W2).mono ?_
  rintro e W3 ⟨sk, rfl, hE3, hC3⟩
  obtain ⟨ka, kcap, rfl, -⟩ := hC3.spec
  have HC3 := Lib.hid hC3
  have HE3 := Lib.hid (HE2.out.trans' hE3)
  have HC1'' := Lib.hid (HC1'.out.ext hE3)
  have HC2' := Lib.hid (HC2.out.ext hE3)
  clear hC3 hE3 CH CJ CK HC1 HC2 HC1' HE1 HE2
  go_upto_region 2 with (fail)
  obtain ⟨W0, hW0⟩ : ∃ W0, W0 = ((W3.alloc (.cells #[.int .i64 H.n, .int .i64 H.most, .slice ha H.cs.length hcap] 24)).alloc (.cells #[.int .i64 J.n, .int .i64 J.most, .slice ja J.cs.length jcap] 24)).alloc (.cells #[.int .i64 K.n, .int .i64 K.most, .slice ka K.cs.length kcap] 24) := ⟨_, rfl⟩
  have hE0 : Ext W3 W0 := by rw [hW0]; exact (by repeat (first | exact Below.refl _ _ | refine Ext.al ?_ _ | refine Ext.dr ?_ | refine Ext.drN ?_ _ | refine Ext.gr ?_ _ | refine Ext.set ?_ (by simp) _ | (refine Ext.trans' ?_ (by assumption))))
  have h0 : W0.cell? ⟨W3.heap.size, 0, none⟩ = some (.int .i64 H.n) := by rw [hW0]; simp [go_sem]
  have h1 : W0.cell? ⟨W3.heap.size, 1, none⟩ = some (.int .i64 H.most) := by rw [hW0]; simp [go_sem]
  have h2 : W0.cell? ⟨W3.heap.size, 2, none⟩ = some (.slice ha H.cs.length hcap) := by rw [hW0]; simp [go_sem]
  have j0 : W0.cell? ⟨W3.heap.size + 1, 0, none⟩ = some (.int .i64 J.n) := by rw [hW0]; simp [go_sem]
  have j1 : W0.cell? ⟨W3.heap.size + 1, 1, none⟩ = some (.int .i64 J.most) := by rw [hW0]; simp [go_sem]
  have j2 : W0.cell? ⟨W3.heap.size + 1, 2, none⟩ = some (.slice ja J.cs.length jcap) := by rw [hW0]; simp [go_sem]
  have k0 : W0.cell? ⟨W3.heap.size + 1 + 1, 0, none⟩ = some (.int .i64 K.n) := by rw [hW0]; simp [go_sem]
  have k1 : W0.cell? ⟨W3.heap.size + 1 + 1, 1, none⟩ = some (.int .i64 K.most) := by rw [hW0]; simp [go_sem]
  have k2 : W0.cell? ⟨W3.heap.size + 1 + 1, 2, none⟩ = some (.slice ka K.cs.length kcap) := by rw [hW0]; simp [go_sem]
  have z1 : W3.heap.size < W0.heap.size := World.block_lt_of_cell? _ _ h0
  have z2 : W3.heap.size + 1 < W0.heap.size := World.block_lt_of_cell? _ _ j0
  have z3 : W3.heap.size + 1 + 1 < W0.heap.size := World.block_lt_of_cell? _ _ k0
  have HH := Lib.hid (HC1''.out.ext hE0)
  have HJ := Lib.hid (HC2'.out.ext hE0)
  have HK := Lib.hid (HC3.out.ext hE0)
  have HE0 := Lib.hid (HE3.out.trans' hE0)
  rw [← hW0]
  clear hW0 hE0 HC1'' HC2' HC3 HE3
  go_wp2_with fail
  refine callW (W0 := W0) (g := ⟨W0, Below.refl _ _⟩) (by exact (by repeat (first | exact Below.refl _ _ | refine Ext.al ?_ _ | refine Ext.dr ?_ | refine Ext.drN ?_ _ | refine Ext.gr ?_ _ | refine Ext.set ?_ (by simp) _ | (refine Ext.trans' ?_ (by assumption))))) (checkTruth_any H _ _ [5, 6, 15] _ (HH.out.ext (by exact (by repeat (first | exact Below.refl _ _ | refine Ext.al ?_ _ | refine Ext.dr ?_ | refine Ext.drN ?_ _ | refine Ext.gr ?_ _ | refine Ext.set ?_ (by simp) _ | (refine Ext.trans' ?_ (by assumption)))))) (isInts_three (by omega) (by omega) (by simp [go_sem]) (by simp [go_sem]) (by simp [go_sem]))) fun g1 hgr => ?_
  clear hgr
  rw [V1.out]
  go_wp2_with fail
  refine callW (W0 := W0) (g := g1) (by exact (by repeat (first | exact Below.refl _ _ | refine Ext.al ?_ _ | refine Ext.dr ?_ | refine Ext.drN ?_ _ | refine Ext.gr ?_ _ | refine Ext.set ?_ (by simp) _ | (refine Ext.trans' ?_ (by assumption))))) (checkTruth_any H _ _ [5, 8, 15] _ (HH.out.ext (by exact (by repeat (first | exact Below.refl _ _ | refine Ext.al ?_ _ | refine Ext.dr ?_ | refine Ext.drN ?_ _ | refine Ext.gr ?_ _ | refine Ext.set ?_ (by simp) _ | (refine Ext.trans' ?_ (by assumption)))))) (isInts_three (by omega) (by omega) (by simp [go_sem]) (by simp [go_sem]) (by simp [go_sem]))) fun g2 hgr => ?_
  clear hgr
  rw [V2.out]
  go_wp2_with fail
  refine callWR (W0 := W0) (g := g2) (by exact (by repeat (first | exact Below.refl _ _ | refine Ext.al ?_ _ | refine Ext.dr ?_ | refine Ext.drN ?_ _ | refine Ext.gr ?_ _ | refine Ext.set ?_ (by simp) _ | (refine Ext.trans' ?_ (by assumption))))) (truth_fin H _ _ (HH.out.ext (by exact (by repeat (first | exact Below.refl _ _ | refine Ext.al ?_ _ | refine Ext.dr ?_ | refine Ext.drN ?_ _ | refine Ext.gr ?_ _ | refine Ext.set ?_ (by simp) _ | (refine Ext.trans' ?_ (by assumption))))))) (fun _ _ r => r.ext) fun e g3 hgr hr => ?_
  obtain ⟨tv, rfl, -, hT⟩ := hr
  rw [V3.out]
  obtain ⟨ta, tcap, rfl, -⟩ := hT.spec
  have HT := Lib.hid hT
  clear hgr hT
  go_wp2_with fail
  refine callWR (W0 := W0) (g := g3) (by exact (by repeat (first | exact Below.refl _ _ | refine Ext.al ?_ _ | refine Ext.dr ?_ | refine Ext.drN ?_ _ | refine Ext.gr ?_ _ | refine Ext.set ?_ (by simp) _ | (refine Ext.trans' ?_ (by assumption))))) (truth_fin J _ _ (HJ.out.ext (by exact (by repeat (first | exact Below.refl _ _ | refine Ext.al ?_ _ | refine Ext.dr ?_ | refine Ext.drN ?_ _ | refine Ext.gr ?_ _ | refine Ext.set ?_ (by simp) _ | (refine Ext.trans' ?_ (by assumption))))))) (fun _ _ r => r.ext) fun e g4 hgr hr => ?_
  obtain ⟨tv2, rfl, -, hT2⟩ := hr
  rw [V4.out]
  obtain ⟨ta2, tcap2, rfl, -⟩ := hT2.spec
  replace HT := Lib.hid (HT.out.ext hgr)
  clear hgr hT2
  go_wp2_with fail
  refine callW (W0 := W0) (g := g4) (by exact (by repeat (first | exact Below.refl _ _ | refine Ext.al ?_ _ | refine Ext.dr ?_ | refine Ext.drN ?_ _ | refine Ext.gr ?_ _ | refine Ext.set ?_ (by simp) _ | (refine Ext.trans' ?_ (by assumption))))) (span_any H _ 1 1 _ (HH.out.ext (by exact (by repeat (first | exact Below.refl _ _ | refine Ext.al ?_ _ | refine Ext.dr ?_ | refine Ext.drN ?_ _ | refine Ext.gr ?_ _ | refine Ext.set ?_ (by simp) _ | (refine Ext.trans' ?_ (by assumption))))))) fun g5 hgr => ?_
  rw [V5a.out, V5b.out, V5c.out]
  replace HT := Lib.hid (HT.out.ext hgr)
  clear hgr
  go_upto_region 7 with (fail)
  obtain ⟨X0, hX⟩ : ∃ X0, X0 = (grow W0 g5).alloc (.cells #[.int .i64 4, .int .i64 9] 35) := ⟨_, rfl⟩
  have x0 : X0.cell? ⟨(grow W0 g5).heap.size, 0, none⟩ = some (.int .i64 4) := by rw [hX]; simp [go_sem]
  have x1 : X0.cell? ⟨(grow W0 g5).heap.size, 1, none⟩ = some (.int .i64 9) := by rw [hX]; simp [go_sem]
  have eX : Ext W0 X0 := by rw [hX]; exact (by repeat (first | exact Below.refl _ _ | refine Ext.al ?_ _ | refine Ext.dr ?_ | refine Ext.drN ?_ _ | refine Ext.gr ?_ _ | refine Ext.set ?_ (by simp) _ | (refine Ext.trans' ?_ (by assumption))))
  have eX5 : Ext (grow W0 g5) X0 := by rw [hX]; exact (by repeat (first | exact Below.refl _ _ | refine Ext.al ?_ _ | refine Ext.dr ?_ | refine Ext.drN ?_ _ | refine Ext.gr ?_ _ | refine Ext.set ?_ (by simp) _ | (refine Ext.trans' ?_ (by assumption))))
  replace h0 := cell_ext eX h0
  replace h1 := cell_ext eX h1
  replace h2 := cell_ext eX h2
  replace j0 := cell_ext eX j0
  replace j1 := cell_ext eX j1
  replace j2 := cell_ext eX j2
  replace k0 := cell_ext eX k0
  replace k1 := cell_ext eX k1
  replace k2 := cell_ext eX k2
  replace HH := Lib.hid (HH.out.ext eX)
  replace HJ := Lib.hid (HJ.out.ext eX)
  replace HK := Lib.hid (HK.out.ext eX)
  replace HT := Lib.hid (HT.out.ext eX5)
  have z4 : (grow W0 g5).heap.size < X0.heap.size := World.block_lt_of_cell? _ _ x0
  have HE1 := Lib.hid (HE0.out.trans' eX)
  have zz := eX.size
  rw [← hX]
  obtain ⟨bS, hbS⟩ : ∃ b, b = (grow W0 g5).heap.size := ⟨_, rfl⟩
  rw [← hbS] at x0 x1 z4 ⊢
  replace z1 : W3.heap.size < X0.heap.size := by omega
  replace z2 : W3.heap.size + 1 < X0.heap.size := by omega
  replace z3 : W3.heap.size + 1 + 1 < X0.heap.size := by omega
  clear hX eX eX5 HE0 zz hbS
  refine wp_region_wander1 [spV (.agg #[.int .i64 H.n, .int .i64 H.most, .slice ha H.cs.length hcap]), spV (.agg #[.bool false, .int .i64 1, .bool false]), spV (.agg #[.bool false, .int .i64 2, .bool true]), spV (.agg #[.bool false, .int .i64 0, .bool false]), spStps 3 [⟨false, 1, false⟩, ⟨false, 2, true⟩, ⟨false, 0, false⟩], spStps 3 [⟨false, 1, false⟩, ⟨false, 2, true⟩, ⟨false, 0, false⟩], spV (.tuple #[.int .i64 9, .int .i64 0]), spV (.tuple #[.int .i64 9, .int .i64 0]), spV (.int .i64 9), spV (.int .i64 0), spV (.int .i64 9), spV (.int .i64 0)] (by kernel_rfl) (by kernel_rfl) (by kernel_rfl) ⟨?s0, ?s1, ?s2, ?s3, ?s4, ?s5, ?s6, ?s7, ?s8, ?s9, ?s10, ?s11, trivial⟩ [some 59, some 60, some 61, some 62, some 63, some 64, some 65, some 58, some 66, some 67, some 12, some 13] rfl rfl ?send
  case s0 =>
    intro val ρ W hE hd hA
    have hE0 : Ext X0 W := Ext.trans' (by exact (by repeat (first | exact Below.refl _ _ | refine Ext.al ?_ _ | refine Ext.dr ?_ | refine Ext.drN ?_ _ | refine Ext.gr ?_ _ | refine Ext.set ?_ (by simp) _ | (refine Ext.trans' ?_ (by assumption))))) hE
    have e1 : ρ (.tmp 1) = .pointer (some ⟨W3.heap.size, 0, none⟩) := hA.old 1 (by decide)
    clear hd hA
    obtain ⟨g, rfl⟩ := grow_of hE0
    refine run1_val (W' := grow X0 g) (by simp [execOp, e1, go_sem, h0, h1, h2, z1]) (Below.refl _ _) rfl
  case s1 =>
    intro val ρ W hE hd hA
    have hE0 : Ext X0 W := Ext.trans' (by exact (by repeat (first | exact Below.refl _ _ | refine Ext.al ?_ _ | refine Ext.dr ?_ | refine Ext.drN ?_ _ | refine Ext.gr ?_ _ | refine Ext.set ?_ (by simp) _ | (refine Ext.trans' ?_ (by assumption))))) hE
    refine run1_call 61 _ _ rfl #[.int .i64 1] (hA.func _) (by simp [hA.const]) (fun args W => Try.call61 args W) ((stepC_any 1 W).mono ?_)
    rintro e w' ⟨rfl, hb⟩
    exact ⟨_, rfl, hb, rfl⟩
  case s2 =>
    intro val ρ W hE hd hA
    have hE0 : Ext X0 W := Ext.trans' (by exact (by repeat (first | exact Below.refl _ _ | refine Ext.al ?_ _ | refine Ext.dr ?_ | refine Ext.drN ?_ _ | refine Ext.gr ?_ _ | refine Ext.set ?_ (by simp) _ | (refine Ext.trans' ?_ (by assumption))))) hE
    refine run1_call 62 _ _ rfl #[.int .i64 2] (hA.func _) (by simp [hA.const]) (fun args W => Try.call62 args W) ((stepB_any 2 W).mono ?_)
    rintro e w' ⟨rfl, hb⟩
    exact ⟨_, rfl, hb, rfl⟩
  case s3 =>
    intro val ρ W hE hd hA
    have hE0 : Ext X0 W := Ext.trans' (by exact (by repeat (first | exact Below.refl _ _ | refine Ext.al ?_ _ | refine Ext.dr ?_ | refine Ext.drN ?_ _ | refine Ext.gr ?_ _ | refine Ext.set ?_ (by simp) _ | (refine Ext.trans' ?_ (by assumption))))) hE
    refine run1_call 61 _ _ rfl #[.int .i64 0] (hA.func _) (by simp [hA.const]) (fun args W => Try.call61 args W) ((stepC_any 0 W).mono ?_)
    rintro e w' ⟨rfl, hb⟩
    exact ⟨_, rfl, hb, rfl⟩
  case s4 =>
    intro val ρ W hE hd hA
    have hE0 : Ext X0 W := Ext.trans' (by exact (by repeat (first | exact Below.refl _ _ | refine Ext.al ?_ _ | refine Ext.dr ?_ | refine Ext.drN ?_ _ | refine Ext.gr ?_ _ | refine Ext.set ?_ (by simp) _ | (refine Ext.trans' ?_ (by assumption))))) hE
    have d1 : ρ (.tmp 60) = .agg #[.bool false, .int .i64 1, .bool false] := (hA.dep 1 (by decide) 60 rfl).trans (hd 1 (by decide))
    have d2 : ρ (.tmp 61) = .agg #[.bool false, .int .i64 2, .bool true] := (hA.dep 2 (by decide) 61 rfl).trans (hd 2 (by decide))
    have d3 : ρ (.tmp 62) = .agg #[.bool false, .int .i64 0, .bool false] := (hA.dep 3 (by decide) 62 rfl).trans (hd 3 (by decide))
    clear hd hA
    refine run1_val (by simp [execOp, d1, d2, d3, go_sem]; exact ⟨rfl, rfl⟩) (by exact (by repeat (first | exact Below.refl _ _ | refine Ext.al ?_ _ | refine Ext.dr ?_ | refine Ext.drN ?_ _ | refine Ext.gr ?_ _ | refine Ext.set ?_ (by simp) _ | (refine Ext.trans' ?_ (by assumption))))) ⟨⟨_, rfl⟩, ⟨_, 3, rfl, by simp, by omega, .inr ⟨_, 0, rfl, newRows _ ([⟨false, 1, false⟩, ⟨false, 2, true⟩, ⟨false, 0, false⟩].map Stp.cells) _ _ _ 3 rfl (by simp [Stp.cells]) (by simp [Stp.cells])⟩⟩⟩
  case s5 =>
    intro val ρ W hE hd hA
    have hE0 : Ext X0 W := Ext.trans' (by exact (by repeat (first | exact Below.refl _ _ | refine Ext.al ?_ _ | refine Ext.dr ?_ | refine Ext.drN ?_ _ | refine Ext.gr ?_ _ | refine Ext.set ?_ (by simp) _ | (refine Ext.trans' ?_ (by assumption))))) hE
    have d1 : ρ (.tmp 63) = _ := hA.dep 4 (by decide) 63 rfl
    have d2 : (∃ b, val 4 = .slice (some ⟨b, 0, none⟩) 3 3) ∧ IsStps W (val 4) [⟨false, 1, false⟩, ⟨false, 2, true⟩, ⟨false, 0, false⟩] := hd 4 (by decide)
    refine run1_call 58 _ _ rfl #[val 4] (hA.func _) (by simp [d1]) (fun args W => Try.call58 args W) ((wayL_any (val 4) W).mono ?_)
    rintro e w' ⟨rfl, hb⟩
    exact ⟨_, rfl, hb, d2.1, d2.2.ext hb⟩
  case s6 =>
    intro val ρ W hE hd hA
    have hE0 : Ext X0 W := Ext.trans' (by exact (by repeat (first | exact Below.refl _ _ | refine Ext.al ?_ _ | refine Ext.dr ?_ | refine Ext.drN ?_ _ | refine Ext.gr ?_ _ | refine Ext.set ?_ (by simp) _ | (refine Ext.trans' ?_ (by assumption))))) hE
    have d0 : ρ (.tmp 59) = .agg #[.int .i64 H.n, .int .i64 H.most, .slice ha H.cs.length hcap] := (hA.dep 0 (by decide) 59 rfl).trans (hd 0 (by decide))
    have d1 : ρ (.tmp 64) = _ := hA.dep 5 (by decide) 64 rfl
    have d2 : (∃ b, val 5 = .slice (some ⟨b, 0, none⟩) 3 3) ∧ IsStps W (val 5) [⟨false, 1, false⟩, ⟨false, 2, true⟩, ⟨false, 0, false⟩] := hd 5 (by decide)
    refine run1_call 28 _ _ rfl #[.agg #[.int .i64 H.n, .int .i64 H.most, .slice ha H.cs.length hcap], .int .i64 1, .int .i64 2, val 5] (hA.func _) (by simp [d0, d1, hA.const]) (fun args W => Try.call28 args W) ((checkWay_any H _ (val 5) 1 2 _ W (HH.out.ext hE0) d2.2).mono ?_)
    rintro e w' ⟨rfl, hb⟩
    rw [V6.out]
    exact ⟨_, rfl, hb, rfl⟩
  case s7 =>
    intro val ρ W hE hd hA
    have hE0 : Ext X0 W := Ext.trans' (by exact (by repeat (first | exact Below.refl _ _ | refine Ext.al ?_ _ | refine Ext.dr ?_ | refine Ext.drN ?_ _ | refine Ext.gr ?_ _ | refine Ext.set ?_ (by simp) _ | (refine Ext.trans' ?_ (by assumption))))) hE
    exact run1_move (.tmp 65) rfl ((hA.dep 6 (by decide) 65 rfl).trans (hd 6 (by decide)))
  case s8 =>
    intro val ρ W hE hd hA
    have hE0 : Ext X0 W := Ext.trans' (by exact (by repeat (first | exact Below.refl _ _ | refine Ext.al ?_ _ | refine Ext.dr ?_ | refine Ext.drN ?_ _ | refine Ext.gr ?_ _ | refine Ext.set ?_ (by simp) _ | (refine Ext.trans' ?_ (by assumption))))) hE
    exact run1_extract (.tmp 58) 0 rfl _ _ ((hA.dep 7 (by decide) 58 rfl).trans (hd 7 (by decide))) rfl rfl
  case s9 =>
    intro val ρ W hE hd hA
    have hE0 : Ext X0 W := Ext.trans' (by exact (by repeat (first | exact Below.refl _ _ | refine Ext.al ?_ _ | refine Ext.dr ?_ | refine Ext.drN ?_ _ | refine Ext.gr ?_ _ | refine Ext.set ?_ (by simp) _ | (refine Ext.trans' ?_ (by assumption))))) hE
    exact run1_extract (.tmp 58) 1 rfl _ _ ((hA.dep 7 (by decide) 58 rfl).trans (hd 7 (by decide))) rfl rfl
  case s10 =>
    intro val ρ W hE hd hA
    have hE0 : Ext X0 W := Ext.trans' (by exact (by repeat (first | exact Below.refl _ _ | refine Ext.al ?_ _ | refine Ext.dr ?_ | refine Ext.drN ?_ _ | refine Ext.gr ?_ _ | refine Ext.set ?_ (by simp) _ | (refine Ext.trans' ?_ (by assumption))))) hE
    exact run1_assign (.tmp 66) rfl ((hA.dep 8 (by decide) 66 rfl).trans (hd 8 (by decide)))
  case s11 =>
    intro val ρ W hE hd hA
    have hE0 : Ext X0 W := Ext.trans' (by exact (by repeat (first | exact Below.refl _ _ | refine Ext.al ?_ _ | refine Ext.dr ?_ | refine Ext.drN ?_ _ | refine Ext.gr ?_ _ | refine Ext.set ?_ (by simp) _ | (refine Ext.trans' ?_ (by assumption))))) hE
    exact run1_assign (.tmp 67) rfl ((hA.dep 9 (by decide) 67 rfl).trans (hd 9 (by decide)))
  case send =>
    intro val W hE hv
    have hE0 : Ext X0 W := Ext.trans' (by exact (by repeat (first | exact Below.refl _ _ | refine Ext.al ?_ _ | refine Ext.dr ?_ | refine Ext.drN ?_ _ | refine Ext.gr ?_ _ | refine Ext.set ?_ (by simp) _ | (refine Ext.trans' ?_ (by assumption))))) hE
    obtain ⟨-, -, -, -, -, -, -, -, q8, q9, q10, q11, -⟩ := hv
    replace HT := Lib.hid (HT.out.ext hE)
    obtain ⟨g6, rfl⟩ := grow_of hE0
    have q8 : val 8 = .int .i64 9 := q8
    have q9 : val 9 = .int .i64 0 := q9
    have q10 : val 10 = .int .i64 9 := q10
    have q11 : val 11 = .int .i64 0 := q11
    clear hE hE0
    simp only [putD, q8, q9, q10, q11]
    go_frame
    clear q8 q9 q10 q11
    go_upto_region 8 with (fail)
    refine wp_region_wander1 [spV (.agg #[.int .i64 H.n, .int .i64 H.most, .slice ha H.cs.length hcap]), spV (.agg #[.bool false, .int .i64 1, .bool false]), spStps 1 [⟨false, 1, false⟩], spStps 1 [⟨false, 1, false⟩], spV (.tuple #[.int .i64 0, .int .i64 16]), spV (.tuple #[.int .i64 0, .int .i64 16]), spV (.int .i64 0), spV (.int .i64 16), spV (.int .i64 0), spV (.int .i64 16)] (by kernel_rfl) (by kernel_rfl) (by kernel_rfl) ⟨?s0, ?s1, ?s2, ?s3, ?s4, ?s5, ?s6, ?s7, ?s8, ?s9, trivial⟩ [some 69, some 70, some 71, some 72, some 73, some 68, some 74, some 75, some 14, some 15] rfl rfl ?send
    case s0 =>
      intro val ρ W hE hd hA
      have hE0 : Ext X0 W := Ext.trans' (by exact (by repeat (first | exact Below.refl _ _ | refine Ext.al ?_ _ | refine Ext.dr ?_ | refine Ext.drN ?_ _ | refine Ext.gr ?_ _ | refine Ext.set ?_ (by simp) _ | (refine Ext.trans' ?_ (by assumption))))) hE
      have e1 : ρ (.tmp 1) = .pointer (some ⟨W3.heap.size, 0, none⟩) := hA.old 1 (by decide)
      clear hd hA
      obtain ⟨g, rfl⟩ := grow_of hE0
      refine run1_val (W' := grow X0 g) (by simp [execOp, e1, go_sem, h0, h1, h2, z1]) (Below.refl _ _) rfl
    case s1 =>
      intro val ρ W hE hd hA
      have hE0 : Ext X0 W := Ext.trans' (by exact (by repeat (first | exact Below.refl _ _ | refine Ext.al ?_ _ | refine Ext.dr ?_ | refine Ext.drN ?_ _ | refine Ext.gr ?_ _ | refine Ext.set ?_ (by simp) _ | (refine Ext.trans' ?_ (by assumption))))) hE
      refine run1_call 61 _ _ rfl #[.int .i64 1] (hA.func _) (by simp [hA.const]) (fun args W => Try.call61 args W) ((stepC_any 1 W).mono ?_)
      rintro e w' ⟨rfl, hb⟩
      exact ⟨_, rfl, hb, rfl⟩
    case s2 =>
      intro val ρ W hE hd hA
      have hE0 : Ext X0 W := Ext.trans' (by exact (by repeat (first | exact Below.refl _ _ | refine Ext.al ?_ _ | refine Ext.dr ?_ | refine Ext.drN ?_ _ | refine Ext.gr ?_ _ | refine Ext.set ?_ (by simp) _ | (refine Ext.trans' ?_ (by assumption))))) hE
      have d1 : ρ (.tmp 70) = .agg #[.bool false, .int .i64 1, .bool false] := (hA.dep 1 (by decide) 70 rfl).trans (hd 1 (by decide))
      clear hd hA
      refine run1_val (by simp [execOp, d1, go_sem]; exact ⟨rfl, rfl⟩) (by exact (by repeat (first | exact Below.refl _ _ | refine Ext.al ?_ _ | refine Ext.dr ?_ | refine Ext.drN ?_ _ | refine Ext.gr ?_ _ | refine Ext.set ?_ (by simp) _ | (refine Ext.trans' ?_ (by assumption))))) ⟨⟨_, rfl⟩, ⟨_, 1, rfl, by simp, by omega, .inr ⟨_, 0, rfl, newRows _ ([⟨false, 1, false⟩].map Stp.cells) _ _ _ 3 rfl (by simp [Stp.cells]) (by simp [Stp.cells])⟩⟩⟩
    case s3 =>
      intro val ρ W hE hd hA
      have hE0 : Ext X0 W := Ext.trans' (by exact (by repeat (first | exact Below.refl _ _ | refine Ext.al ?_ _ | refine Ext.dr ?_ | refine Ext.drN ?_ _ | refine Ext.gr ?_ _ | refine Ext.set ?_ (by simp) _ | (refine Ext.trans' ?_ (by assumption))))) hE
      have d1 : ρ (.tmp 71) = _ := hA.dep 2 (by decide) 71 rfl
      have d2 : (∃ b, val 2 = .slice (some ⟨b, 0, none⟩) 1 1) ∧ IsStps W (val 2) [⟨false, 1, false⟩] := hd 2 (by decide)
      refine run1_call 58 _ _ rfl #[val 2] (hA.func _) (by simp [d1]) (fun args W => Try.call58 args W) ((wayL_any (val 2) W).mono ?_)
      rintro e w' ⟨rfl, hb⟩
      exact ⟨_, rfl, hb, d2.1, d2.2.ext hb⟩
    case s4 =>
      intro val ρ W hE hd hA
      have hE0 : Ext X0 W := Ext.trans' (by exact (by repeat (first | exact Below.refl _ _ | refine Ext.al ?_ _ | refine Ext.dr ?_ | refine Ext.drN ?_ _ | refine Ext.gr ?_ _ | refine Ext.set ?_ (by simp) _ | (refine Ext.trans' ?_ (by assumption))))) hE
      have d0 : ρ (.tmp 69) = .agg #[.int .i64 H.n, .int .i64 H.most, .slice ha H.cs.length hcap] := (hA.dep 0 (by decide) 69 rfl).trans (hd 0 (by decide))
      have d1 : ρ (.tmp 72) = _ := hA.dep 3 (by decide) 72 rfl
      have d2 : (∃ b, val 3 = .slice (some ⟨b, 0, none⟩) 1 1) ∧ IsStps W (val 3) [⟨false, 1, false⟩] := hd 3 (by decide)
      refine run1_call 28 _ _ rfl #[.agg #[.int .i64 H.n, .int .i64 H.most, .slice ha H.cs.length hcap], .int .i64 1, .int .i64 2, val 3] (hA.func _) (by simp [d0, d1, hA.const]) (fun args W => Try.call28 args W) ((checkWay_any H _ (val 3) 1 2 _ W (HH.out.ext hE0) d2.2).mono ?_)
      rintro e w' ⟨rfl, hb⟩
      rw [V7.out]
      exact ⟨_, rfl, hb, rfl⟩
    case s5 =>
      intro val ρ W hE hd hA
      have hE0 : Ext X0 W := Ext.trans' (by exact (by repeat (first | exact Below.refl _ _ | refine Ext.al ?_ _ | refine Ext.dr ?_ | refine Ext.drN ?_ _ | refine Ext.gr ?_ _ | refine Ext.set ?_ (by simp) _ | (refine Ext.trans' ?_ (by assumption))))) hE
      exact run1_move (.tmp 73) rfl ((hA.dep 4 (by decide) 73 rfl).trans (hd 4 (by decide)))
    case s6 =>
      intro val ρ W hE hd hA
      have hE0 : Ext X0 W := Ext.trans' (by exact (by repeat (first | exact Below.refl _ _ | refine Ext.al ?_ _ | refine Ext.dr ?_ | refine Ext.drN ?_ _ | refine Ext.gr ?_ _ | refine Ext.set ?_ (by simp) _ | (refine Ext.trans' ?_ (by assumption))))) hE
      exact run1_extract (.tmp 68) 0 rfl _ _ ((hA.dep 5 (by decide) 68 rfl).trans (hd 5 (by decide))) rfl rfl
    case s7 =>
      intro val ρ W hE hd hA
      have hE0 : Ext X0 W := Ext.trans' (by exact (by repeat (first | exact Below.refl _ _ | refine Ext.al ?_ _ | refine Ext.dr ?_ | refine Ext.drN ?_ _ | refine Ext.gr ?_ _ | refine Ext.set ?_ (by simp) _ | (refine Ext.trans' ?_ (by assumption))))) hE
      exact run1_extract (.tmp 68) 1 rfl _ _ ((hA.dep 5 (by decide) 68 rfl).trans (hd 5 (by decide))) rfl rfl
    case s8 =>
      intro val ρ W hE hd hA
      have hE0 : Ext X0 W := Ext.trans' (by exact (by repeat (first | exact Below.refl _ _ | refine Ext.al ?_ _ | refine Ext.dr ?_ | refine Ext.drN ?_ _ | refine Ext.gr ?_ _ | refine Ext.set ?_ (by simp) _ | (refine Ext.trans' ?_ (by assumption))))) hE
      exact run1_assign (.tmp 74) rfl ((hA.dep 6 (by decide) 74 rfl).trans (hd 6 (by decide)))
    case s9 =>
      intro val ρ W hE hd hA
      have hE0 : Ext X0 W := Ext.trans' (by exact (by repeat (first | exact Below.refl _ _ | refine Ext.al ?_ _ | refine Ext.dr ?_ | refine Ext.drN ?_ _ | refine Ext.gr ?_ _ | refine Ext.set ?_ (by simp) _ | (refine Ext.trans' ?_ (by assumption))))) hE
      exact run1_assign (.tmp 75) rfl ((hA.dep 7 (by decide) 75 rfl).trans (hd 7 (by decide)))
    case send =>
      intro val W hE hv
      have hE0 : Ext X0 W := Ext.trans' (by exact (by repeat (first | exact Below.refl _ _ | refine Ext.al ?_ _ | refine Ext.dr ?_ | refine Ext.drN ?_ _ | refine Ext.gr ?_ _ | refine Ext.set ?_ (by simp) _ | (refine Ext.trans' ?_ (by assumption))))) hE
      obtain ⟨-, -, -, -, -, -, q6, q7, q8, q9, -⟩ := hv
      replace HT := Lib.hid (HT.out.ext hE)
      obtain ⟨g7, rfl⟩ := grow_of hE0
      have q6 : val 6 = .int .i64 0 := q6
      have q7 : val 7 = .int .i64 16 := q7
      have q8 : val 8 = .int .i64 0 := q8
      have q9 : val 9 = .int .i64 16 := q9
      clear hE hE0
      simp only [putD, q6, q7, q8, q9]
      go_frame
      clear q6 q7 q8 q9
      go_wp2_with fail
      refine callWR (W0 := X0) (g := g7) (by exact (by repeat (first | exact Below.refl _ _ | refine Ext.al ?_ _ | refine Ext.dr ?_ | refine Ext.drN ?_ _ | refine Ext.gr ?_ _ | refine Ext.set ?_ (by simp) _ | (refine Ext.trans' ?_ (by assumption))))) (way_fin H _ 2 1 _ (HH.out.ext (by exact (by repeat (first | exact Below.refl _ _ | refine Ext.al ?_ _ | refine Ext.dr ?_ | refine Ext.drN ?_ _ | refine Ext.gr ?_ _ | refine Ext.set ?_ (by simp) _ | (refine Ext.trans' ?_ (by assumption))))))) (fun _ _ r => r.ext) fun e g8 hgr hr => ?_
      obtain ⟨lv, ls, rfl, -, hL, hWO⟩ := hr
      rw [V8a.out]
      obtain ⟨la, lcap, rfl, -⟩ := hL.spec
      have HL := Lib.hid hL
      have HWO := Lib.hid hWO
      replace HT := Lib.hid (HT.out.ext hgr)
      clear hgr hL hWO
      go_wp2_with fail
      refine callWR (W0 := X0) (g := g8) (by exact (by repeat (first | exact Below.refl _ _ | refine Ext.al ?_ _ | refine Ext.dr ?_ | refine Ext.drN ?_ _ | refine Ext.gr ?_ _ | refine Ext.set ?_ (by simp) _ | (refine Ext.trans' ?_ (by assumption))))) (ring_fin J _ _ (HJ.out.ext (by exact (by repeat (first | exact Below.refl _ _ | refine Ext.al ?_ _ | refine Ext.dr ?_ | refine Ext.drN ?_ _ | refine Ext.gr ?_ _ | refine Ext.set ?_ (by simp) _ | (refine Ext.trans' ?_ (by assumption))))))) (fun _ _ r => r.ext) fun e g9 hgr hr => ?_
      obtain ⟨rv, rs, rfl, -, hR, hRO⟩ := hr
      rw [V9.out]
      obtain ⟨ra, rcap, rfl, -⟩ := hR.spec
      have HR := Lib.hid hR
      have HRO := Lib.hid hRO
      replace HT := Lib.hid (HT.out.ext hgr)
      replace HL := Lib.hid (HL.out.ext hgr)
      clear hgr hR hRO
      go_wp2_with fail
      refine callWR (W0 := X0) (g := g9) (by exact (by repeat (first | exact Below.refl _ _ | refine Ext.al ?_ _ | refine Ext.dr ?_ | refine Ext.drN ?_ _ | refine Ext.gr ?_ _ | refine Ext.set ?_ (by simp) _ | (refine Ext.trans' ?_ (by assumption))))) (ring_fin H _ _ (HH.out.ext (by exact (by repeat (first | exact Below.refl _ _ | refine Ext.al ?_ _ | refine Ext.dr ?_ | refine Ext.drN ?_ _ | refine Ext.gr ?_ _ | refine Ext.set ?_ (by simp) _ | (refine Ext.trans' ?_ (by assumption))))))) (fun _ _ r => r.ext) fun e g10 hgr hr => ?_
      obtain ⟨rv2, rs2, rfl, -, hR2, -⟩ := hr
      rw [V10.out]
      obtain ⟨ra2, rcap2, rfl, -⟩ := hR2.spec
      replace HT := Lib.hid (HT.out.ext hgr)
      replace HL := Lib.hid (HL.out.ext hgr)
      replace HR := Lib.hid (HR.out.ext hgr)
      clear hgr hR2
      go_upto_region 12 with (fail)
      refine wp_region_wander1 [spV (.agg #[.int .i64 J.n, .int .i64 J.most, .slice ja J.cs.length jcap]), spV (.agg #[.bool false, .int .i64 0, .bool false]), spV (.agg #[.bool true, .int .i64 1, .bool true]), spV (.agg #[.bool false, .int .i64 1, .bool false]), spV (.agg #[.bool false, .int .i64 2, .bool true]), spStps 4 [⟨false, 0, false⟩, ⟨true, 1, true⟩, ⟨false, 1, false⟩, ⟨false, 2, true⟩], spStps 4 [⟨false, 0, false⟩, ⟨true, 1, true⟩, ⟨false, 1, false⟩, ⟨false, 2, true⟩], spRngs 1 [[⟨false, 0, false⟩, ⟨true, 1, true⟩, ⟨false, 1, false⟩, ⟨false, 2, true⟩]], spV (.tuple #[.int .i64 1, .int .i64 0]), spV (.tuple #[.int .i64 1, .int .i64 0]), spV (.int .i64 1), spV (.int .i64 0), spV (.int .i64 1), spV (.int .i64 0)] (by kernel_rfl) (by kernel_rfl) (by kernel_rfl) ⟨?s0, ?s1, ?s2, ?s3, ?s4, ?s5, ?s6, ?s7, ?s8, ?s9, ?s10, ?s11, ?s12, ?s13, trivial⟩ [some 92, some 93, some 94, some 95, some 96, some 97, some 98, some 99, some 100, some 91, some 101, some 102, some 22, some 23] rfl rfl ?send
      case s0 =>
        intro val ρ W hE hd hA
        have hE0 : Ext X0 W := Ext.trans' (by exact (by repeat (first | exact Below.refl _ _ | refine Ext.al ?_ _ | refine Ext.dr ?_ | refine Ext.drN ?_ _ | refine Ext.gr ?_ _ | refine Ext.set ?_ (by simp) _ | (refine Ext.trans' ?_ (by assumption))))) hE
        have e1 : ρ (.tmp 2) = .pointer (some ⟨W3.heap.size + 1, 0, none⟩) := hA.old 2 (by decide)
        clear hd hA
        obtain ⟨g, rfl⟩ := grow_of hE0
        refine run1_val (W' := grow X0 g) (by simp [execOp, e1, go_sem, j0, j1, j2, z2]) (Below.refl _ _) rfl
      case s1 =>
        intro val ρ W hE hd hA
        have hE0 : Ext X0 W := Ext.trans' (by exact (by repeat (first | exact Below.refl _ _ | refine Ext.al ?_ _ | refine Ext.dr ?_ | refine Ext.drN ?_ _ | refine Ext.gr ?_ _ | refine Ext.set ?_ (by simp) _ | (refine Ext.trans' ?_ (by assumption))))) hE
        refine run1_call 61 _ _ rfl #[.int .i64 0] (hA.func _) (by simp [hA.const]) (fun args W => Try.call61 args W) ((stepC_any 0 W).mono ?_)
        rintro e w' ⟨rfl, hb⟩
        exact ⟨_, rfl, hb, rfl⟩
      case s2 =>
        intro val ρ W hE hd hA
        have hE0 : Ext X0 W := Ext.trans' (by exact (by repeat (first | exact Below.refl _ _ | refine Ext.al ?_ _ | refine Ext.dr ?_ | refine Ext.drN ?_ _ | refine Ext.gr ?_ _ | refine Ext.set ?_ (by simp) _ | (refine Ext.trans' ?_ (by assumption))))) hE
        refine run1_call 60 _ _ rfl #[.int .i64 1] (hA.func _) (by simp [hA.const]) (fun args W => Try.call60 args W) ((stepV_any 1 W).mono ?_)
        rintro e w' ⟨rfl, hb⟩
        exact ⟨_, rfl, hb, rfl⟩
      case s3 =>
        intro val ρ W hE hd hA
        have hE0 : Ext X0 W := Ext.trans' (by exact (by repeat (first | exact Below.refl _ _ | refine Ext.al ?_ _ | refine Ext.dr ?_ | refine Ext.drN ?_ _ | refine Ext.gr ?_ _ | refine Ext.set ?_ (by simp) _ | (refine Ext.trans' ?_ (by assumption))))) hE
        refine run1_call 61 _ _ rfl #[.int .i64 1] (hA.func _) (by simp [hA.const]) (fun args W => Try.call61 args W) ((stepC_any 1 W).mono ?_)
        rintro e w' ⟨rfl, hb⟩
        exact ⟨_, rfl, hb, rfl⟩
      case s4 =>
        intro val ρ W hE hd hA
        have hE0 : Ext X0 W := Ext.trans' (by exact (by repeat (first | exact Below.refl _ _ | refine Ext.al ?_ _ | refine Ext.dr ?_ | refine Ext.drN ?_ _ | refine Ext.gr ?_ _ | refine Ext.set ?_ (by simp) _ | (refine Ext.trans' ?_ (by assumption))))) hE
        refine run1_call 62 _ _ rfl #[.int .i64 2] (hA.func _) (by simp [hA.const]) (fun args W => Try.call62 args W) ((stepB_any 2 W).mono ?_)
        rintro e w' ⟨rfl, hb⟩
        exact ⟨_, rfl, hb, rfl⟩
      case s5 =>
        intro val ρ W hE hd hA
        have hE0 : Ext X0 W := Ext.trans' (by exact (by repeat (first | exact Below.refl _ _ | refine Ext.al ?_ _ | refine Ext.dr ?_ | refine Ext.drN ?_ _ | refine Ext.gr ?_ _ | refine Ext.set ?_ (by simp) _ | (refine Ext.trans' ?_ (by assumption))))) hE
        have d1 : ρ (.tmp 93) = .agg #[.bool false, .int .i64 0, .bool false] := (hA.dep 1 (by decide) 93 rfl).trans (hd 1 (by decide))
        have d2 : ρ (.tmp 94) = .agg #[.bool true, .int .i64 1, .bool true] := (hA.dep 2 (by decide) 94 rfl).trans (hd 2 (by decide))
        have d3 : ρ (.tmp 95) = .agg #[.bool false, .int .i64 1, .bool false] := (hA.dep 3 (by decide) 95 rfl).trans (hd 3 (by decide))
        have d4 : ρ (.tmp 96) = .agg #[.bool false, .int .i64 2, .bool true] := (hA.dep 4 (by decide) 96 rfl).trans (hd 4 (by decide))
        clear hd hA
        refine run1_val (by simp [execOp, d1, d2, d3, d4, go_sem]; exact ⟨rfl, rfl⟩) (by exact (by repeat (first | exact Below.refl _ _ | refine Ext.al ?_ _ | refine Ext.dr ?_ | refine Ext.drN ?_ _ | refine Ext.gr ?_ _ | refine Ext.set ?_ (by simp) _ | (refine Ext.trans' ?_ (by assumption))))) ⟨⟨_, rfl⟩, ⟨_, 4, rfl, by simp, by omega, .inr ⟨_, 0, rfl, newRows _ ([⟨false, 0, false⟩, ⟨true, 1, true⟩, ⟨false, 1, false⟩, ⟨false, 2, true⟩].map Stp.cells) _ _ _ 3 rfl (by simp [Stp.cells]) (by simp [Stp.cells])⟩⟩⟩
      case s6 =>
        intro val ρ W hE hd hA
        have hE0 : Ext X0 W := Ext.trans' (by exact (by repeat (first | exact Below.refl _ _ | refine Ext.al ?_ _ | refine Ext.dr ?_ | refine Ext.drN ?_ _ | refine Ext.gr ?_ _ | refine Ext.set ?_ (by simp) _ | (refine Ext.trans' ?_ (by assumption))))) hE
        have d1 : ρ (.tmp 97) = _ := hA.dep 5 (by decide) 97 rfl
        have d2 : (∃ b, val 5 = .slice (some ⟨b, 0, none⟩) 4 4) ∧ IsStps W (val 5) [⟨false, 0, false⟩, ⟨true, 1, true⟩, ⟨false, 1, false⟩, ⟨false, 2, true⟩] := hd 5 (by decide)
        refine run1_call 58 _ _ rfl #[val 5] (hA.func _) (by simp [d1]) (fun args W => Try.call58 args W) ((wayL_any (val 5) W).mono ?_)
        rintro e w' ⟨rfl, hb⟩
        exact ⟨_, rfl, hb, d2.1, d2.2.ext hb⟩
      case s7 =>
        intro val ρ W hE hd hA
        have hE0 : Ext X0 W := Ext.trans' (by exact (by repeat (first | exact Below.refl _ _ | refine Ext.al ?_ _ | refine Ext.dr ?_ | refine Ext.drN ?_ _ | refine Ext.gr ?_ _ | refine Ext.set ?_ (by simp) _ | (refine Ext.trans' ?_ (by assumption))))) hE
        obtain ⟨⟨b6, e6⟩, i6⟩ : (∃ b, val 6 = .slice (some ⟨b, 0, none⟩) 4 4) ∧ IsStps W (val 6) [⟨false, 0, false⟩, ⟨true, 1, true⟩, ⟨false, 1, false⟩, ⟨false, 2, true⟩] := hd 6 (by decide)
        have d6 : ρ (.tmp 98) = .slice (some ⟨b6, 0, none⟩) 4 4 := (hA.dep 6 (by decide) 98 rfl).trans e6
        rw [e6] at i6
        clear hd hA
        refine run1_val (by simp [execOp, d6, go_sem]; exact ⟨rfl, rfl⟩) (by exact (by repeat (first | exact Below.refl _ _ | refine Ext.al ?_ _ | refine Ext.dr ?_ | refine Ext.drN ?_ _ | refine Ext.gr ?_ _ | refine Ext.set ?_ (by simp) _ | (refine Ext.trans' ?_ (by assumption))))) ⟨[((.slice (some ⟨b6, 0, none⟩) 4 4), [⟨false, 0, false⟩, ⟨true, 1, true⟩, ⟨false, 1, false⟩, ⟨false, 2, true⟩])], ⟨_, rfl⟩, ⟨⟨_, 1, rfl, by simp, by omega, .inr ⟨_, 0, rfl, newRows _ [[(.slice (some ⟨b6, 0, none⟩) 4 4)]] _ _ _ 1 rfl (by simp) (by simp)⟩⟩, fun x hx => ?_⟩, rfl⟩
        simp only [List.mem_cons, List.not_mem_nil, or_false] at hx
        subst hx
        exact i6.ext (by exact (by repeat (first | exact Below.refl _ _ | refine Ext.al ?_ _ | refine Ext.dr ?_ | refine Ext.drN ?_ _ | refine Ext.gr ?_ _ | refine Ext.set ?_ (by simp) _ | (refine Ext.trans' ?_ (by assumption)))))
      case s8 =>
        intro val ρ W hE hd hA
        have hE0 : Ext X0 W := Ext.trans' (by exact (by repeat (first | exact Below.refl _ _ | refine Ext.al ?_ _ | refine Ext.dr ?_ | refine Ext.drN ?_ _ | refine Ext.gr ?_ _ | refine Ext.set ?_ (by simp) _ | (refine Ext.trans' ?_ (by assumption))))) hE
        have d0 : ρ (.tmp 92) = .agg #[.int .i64 J.n, .int .i64 J.most, .slice ja J.cs.length jcap] := (hA.dep 0 (by decide) 92 rfl).trans (hd 0 (by decide))
        have d1 : ρ (.tmp 99) = _ := hA.dep 7 (by decide) 99 rfl
        obtain ⟨ps, d2, d3, d4⟩ : ∃ ps, (∃ b, val 7 = .slice (some ⟨b, 0, none⟩) 1 1) ∧ IsRngs W (val 7) ps ∧ ps.map (·.2) = [[⟨false, 0, false⟩, ⟨true, 1, true⟩, ⟨false, 1, false⟩, ⟨false, 2, true⟩]] := hd 7 (by decide)
        refine run1_call 34 _ _ rfl #[.agg #[.int .i64 J.n, .int .i64 J.most, .slice ja J.cs.length jcap], val 7] (hA.func _) (by simp [d0, d1]) (fun args W => Try.call34 args W) ((checkRings_any J _ (val 7) ps W (HJ.out.ext hE0) d3).mono ?_)
        rintro e w' ⟨rfl, hb⟩
        rw [d4, ringsN, V11.out]
        exact ⟨_, rfl, hb, rfl⟩
      case s9 =>
        intro val ρ W hE hd hA
        have hE0 : Ext X0 W := Ext.trans' (by exact (by repeat (first | exact Below.refl _ _ | refine Ext.al ?_ _ | refine Ext.dr ?_ | refine Ext.drN ?_ _ | refine Ext.gr ?_ _ | refine Ext.set ?_ (by simp) _ | (refine Ext.trans' ?_ (by assumption))))) hE
        exact run1_move (.tmp 100) rfl ((hA.dep 8 (by decide) 100 rfl).trans (hd 8 (by decide)))
      case s10 =>
        intro val ρ W hE hd hA
        have hE0 : Ext X0 W := Ext.trans' (by exact (by repeat (first | exact Below.refl _ _ | refine Ext.al ?_ _ | refine Ext.dr ?_ | refine Ext.drN ?_ _ | refine Ext.gr ?_ _ | refine Ext.set ?_ (by simp) _ | (refine Ext.trans' ?_ (by assumption))))) hE
        exact run1_extract (.tmp 91) 0 rfl _ _ ((hA.dep 9 (by decide) 91 rfl).trans (hd 9 (by decide))) rfl rfl
      case s11 =>
        intro val ρ W hE hd hA
        have hE0 : Ext X0 W := Ext.trans' (by exact (by repeat (first | exact Below.refl _ _ | refine Ext.al ?_ _ | refine Ext.dr ?_ | refine Ext.drN ?_ _ | refine Ext.gr ?_ _ | refine Ext.set ?_ (by simp) _ | (refine Ext.trans' ?_ (by assumption))))) hE
        exact run1_extract (.tmp 91) 1 rfl _ _ ((hA.dep 9 (by decide) 91 rfl).trans (hd 9 (by decide))) rfl rfl
      case s12 =>
        intro val ρ W hE hd hA
        have hE0 : Ext X0 W := Ext.trans' (by exact (by repeat (first | exact Below.refl _ _ | refine Ext.al ?_ _ | refine Ext.dr ?_ | refine Ext.drN ?_ _ | refine Ext.gr ?_ _ | refine Ext.set ?_ (by simp) _ | (refine Ext.trans' ?_ (by assumption))))) hE
        exact run1_assign (.tmp 101) rfl ((hA.dep 10 (by decide) 101 rfl).trans (hd 10 (by decide)))
      case s13 =>
        intro val ρ W hE hd hA
        have hE0 : Ext X0 W := Ext.trans' (by exact (by repeat (first | exact Below.refl _ _ | refine Ext.al ?_ _ | refine Ext.dr ?_ | refine Ext.drN ?_ _ | refine Ext.gr ?_ _ | refine Ext.set ?_ (by simp) _ | (refine Ext.trans' ?_ (by assumption))))) hE
        exact run1_assign (.tmp 102) rfl ((hA.dep 11 (by decide) 102 rfl).trans (hd 11 (by decide)))
      case send =>
        intro val W hE hv
        have hE0 : Ext X0 W := Ext.trans' (by exact (by repeat (first | exact Below.refl _ _ | refine Ext.al ?_ _ | refine Ext.dr ?_ | refine Ext.drN ?_ _ | refine Ext.gr ?_ _ | refine Ext.set ?_ (by simp) _ | (refine Ext.trans' ?_ (by assumption))))) hE
        obtain ⟨-, -, -, -, -, -, -, -, -, -, q10, q11, q12, q13, -⟩ := hv
        replace HT := Lib.hid (HT.out.ext hE)
        replace HL := Lib.hid (HL.out.ext hE)
        replace HR := Lib.hid (HR.out.ext hE)
        obtain ⟨g11, rfl⟩ := grow_of hE0
        have q10 : val 10 = .int .i64 1 := q10
        have q11 : val 11 = .int .i64 0 := q11
        have q12 : val 12 = .int .i64 1 := q12
        have q13 : val 13 = .int .i64 0 := q13
        clear hE hE0
        simp only [putD, q10, q11, q12, q13]
        go_frame
        clear q10 q11 q12 q13
        go_upto_region 13 with (fail)
        refine wp_region_wander1 [spV (.agg #[.int .i64 K.n, .int .i64 K.most, .slice ka K.cs.length kcap]), spV (.agg #[.bool false, .int .i64 0, .bool false]), spV (.agg #[.bool false, .int .i64 1, .bool true]), spStps 2 [⟨false, 0, false⟩, ⟨false, 1, true⟩], spStps 2 [⟨false, 0, false⟩, ⟨false, 1, true⟩], spV (.agg #[.bool false, .int .i64 0, .bool false]), spV (.agg #[.bool false, .int .i64 1, .bool true]), spStps 2 [⟨false, 0, false⟩, ⟨false, 1, true⟩], spStps 2 [⟨false, 0, false⟩, ⟨false, 1, true⟩], spRngs 2 [[⟨false, 0, false⟩, ⟨false, 1, true⟩], [⟨false, 0, false⟩, ⟨false, 1, true⟩]], spV (.tuple #[.int .i64 0, .int .i64 14]), spV (.tuple #[.int .i64 0, .int .i64 14]), spV (.int .i64 0), spV (.int .i64 14), spV (.int .i64 0), spV (.int .i64 14)] (by kernel_rfl) (by kernel_rfl) (by kernel_rfl) ⟨?s0, ?s1, ?s2, ?s3, ?s4, ?s5, ?s6, ?s7, ?s8, ?s9, ?s10, ?s11, ?s12, ?s13, ?s14, ?s15, trivial⟩ [some 104, some 105, some 106, some 107, some 108, some 109, some 110, some 111, some 112, some 113, some 114, some 103, some 115, some 116, some 24, some 25] rfl rfl ?send
        case s0 =>
          intro val ρ W hE hd hA
          have hE0 : Ext X0 W := Ext.trans' (by exact (by repeat (first | exact Below.refl _ _ | refine Ext.al ?_ _ | refine Ext.dr ?_ | refine Ext.drN ?_ _ | refine Ext.gr ?_ _ | refine Ext.set ?_ (by simp) _ | (refine Ext.trans' ?_ (by assumption))))) hE
          have e1 : ρ (.tmp 3) = .pointer (some ⟨W3.heap.size + 1 + 1, 0, none⟩) := hA.old 3 (by decide)
          clear hd hA
          obtain ⟨g, rfl⟩ := grow_of hE0
          refine run1_val (W' := grow X0 g) (by simp [execOp, e1, go_sem, k0, k1, k2, z3]) (Below.refl _ _) rfl
        case s1 =>
          intro val ρ W hE hd hA
          have hE0 : Ext X0 W := Ext.trans' (by exact (by repeat (first | exact Below.refl _ _ | refine Ext.al ?_ _ | refine Ext.dr ?_ | refine Ext.drN ?_ _ | refine Ext.gr ?_ _ | refine Ext.set ?_ (by simp) _ | (refine Ext.trans' ?_ (by assumption))))) hE
          refine run1_call 61 _ _ rfl #[.int .i64 0] (hA.func _) (by simp [hA.const]) (fun args W => Try.call61 args W) ((stepC_any 0 W).mono ?_)
          rintro e w' ⟨rfl, hb⟩
          exact ⟨_, rfl, hb, rfl⟩
        case s2 =>
          intro val ρ W hE hd hA
          have hE0 : Ext X0 W := Ext.trans' (by exact (by repeat (first | exact Below.refl _ _ | refine Ext.al ?_ _ | refine Ext.dr ?_ | refine Ext.drN ?_ _ | refine Ext.gr ?_ _ | refine Ext.set ?_ (by simp) _ | (refine Ext.trans' ?_ (by assumption))))) hE
          refine run1_call 62 _ _ rfl #[.int .i64 1] (hA.func _) (by simp [hA.const]) (fun args W => Try.call62 args W) ((stepB_any 1 W).mono ?_)
          rintro e w' ⟨rfl, hb⟩
          exact ⟨_, rfl, hb, rfl⟩
        case s3 =>
          intro val ρ W hE hd hA
          have hE0 : Ext X0 W := Ext.trans' (by exact (by repeat (first | exact Below.refl _ _ | refine Ext.al ?_ _ | refine Ext.dr ?_ | refine Ext.drN ?_ _ | refine Ext.gr ?_ _ | refine Ext.set ?_ (by simp) _ | (refine Ext.trans' ?_ (by assumption))))) hE
          have d1 : ρ (.tmp 105) = .agg #[.bool false, .int .i64 0, .bool false] := (hA.dep 1 (by decide) 105 rfl).trans (hd 1 (by decide))
          have d2 : ρ (.tmp 106) = .agg #[.bool false, .int .i64 1, .bool true] := (hA.dep 2 (by decide) 106 rfl).trans (hd 2 (by decide))
          clear hd hA
          refine run1_val (by simp [execOp, d1, d2, go_sem]; exact ⟨rfl, rfl⟩) (by exact (by repeat (first | exact Below.refl _ _ | refine Ext.al ?_ _ | refine Ext.dr ?_ | refine Ext.drN ?_ _ | refine Ext.gr ?_ _ | refine Ext.set ?_ (by simp) _ | (refine Ext.trans' ?_ (by assumption))))) ⟨⟨_, rfl⟩, ⟨_, 2, rfl, by simp, by omega, .inr ⟨_, 0, rfl, newRows _ ([⟨false, 0, false⟩, ⟨false, 1, true⟩].map Stp.cells) _ _ _ 3 rfl (by simp [Stp.cells]) (by simp [Stp.cells])⟩⟩⟩
        case s4 =>
          intro val ρ W hE hd hA
          have hE0 : Ext X0 W := Ext.trans' (by exact (by repeat (first | exact Below.refl _ _ | refine Ext.al ?_ _ | refine Ext.dr ?_ | refine Ext.drN ?_ _ | refine Ext.gr ?_ _ | refine Ext.set ?_ (by simp) _ | (refine Ext.trans' ?_ (by assumption))))) hE
          have d1 : ρ (.tmp 107) = _ := hA.dep 3 (by decide) 107 rfl
          have d2 : (∃ b, val 3 = .slice (some ⟨b, 0, none⟩) 2 2) ∧ IsStps W (val 3) [⟨false, 0, false⟩, ⟨false, 1, true⟩] := hd 3 (by decide)
          refine run1_call 58 _ _ rfl #[val 3] (hA.func _) (by simp [d1]) (fun args W => Try.call58 args W) ((wayL_any (val 3) W).mono ?_)
          rintro e w' ⟨rfl, hb⟩
          exact ⟨_, rfl, hb, d2.1, d2.2.ext hb⟩
        case s5 =>
          intro val ρ W hE hd hA
          have hE0 : Ext X0 W := Ext.trans' (by exact (by repeat (first | exact Below.refl _ _ | refine Ext.al ?_ _ | refine Ext.dr ?_ | refine Ext.drN ?_ _ | refine Ext.gr ?_ _ | refine Ext.set ?_ (by simp) _ | (refine Ext.trans' ?_ (by assumption))))) hE
          refine run1_call 61 _ _ rfl #[.int .i64 0] (hA.func _) (by simp [hA.const]) (fun args W => Try.call61 args W) ((stepC_any 0 W).mono ?_)
          rintro e w' ⟨rfl, hb⟩
          exact ⟨_, rfl, hb, rfl⟩
        case s6 =>
          intro val ρ W hE hd hA
          have hE0 : Ext X0 W := Ext.trans' (by exact (by repeat (first | exact Below.refl _ _ | refine Ext.al ?_ _ | refine Ext.dr ?_ | refine Ext.drN ?_ _ | refine Ext.gr ?_ _ | refine Ext.set ?_ (by simp) _ | (refine Ext.trans' ?_ (by assumption))))) hE
          refine run1_call 62 _ _ rfl #[.int .i64 1] (hA.func _) (by simp [hA.const]) (fun args W => Try.call62 args W) ((stepB_any 1 W).mono ?_)
          rintro e w' ⟨rfl, hb⟩
          exact ⟨_, rfl, hb, rfl⟩
        case s7 =>
          intro val ρ W hE hd hA
          have hE0 : Ext X0 W := Ext.trans' (by exact (by repeat (first | exact Below.refl _ _ | refine Ext.al ?_ _ | refine Ext.dr ?_ | refine Ext.drN ?_ _ | refine Ext.gr ?_ _ | refine Ext.set ?_ (by simp) _ | (refine Ext.trans' ?_ (by assumption))))) hE
          have d5 : ρ (.tmp 109) = .agg #[.bool false, .int .i64 0, .bool false] := (hA.dep 5 (by decide) 109 rfl).trans (hd 5 (by decide))
          have d6 : ρ (.tmp 110) = .agg #[.bool false, .int .i64 1, .bool true] := (hA.dep 6 (by decide) 110 rfl).trans (hd 6 (by decide))
          clear hd hA
          refine run1_val (by simp [execOp, d5, d6, go_sem]; exact ⟨rfl, rfl⟩) (by exact (by repeat (first | exact Below.refl _ _ | refine Ext.al ?_ _ | refine Ext.dr ?_ | refine Ext.drN ?_ _ | refine Ext.gr ?_ _ | refine Ext.set ?_ (by simp) _ | (refine Ext.trans' ?_ (by assumption))))) ⟨⟨_, rfl⟩, ⟨_, 2, rfl, by simp, by omega, .inr ⟨_, 0, rfl, newRows _ ([⟨false, 0, false⟩, ⟨false, 1, true⟩].map Stp.cells) _ _ _ 3 rfl (by simp [Stp.cells]) (by simp [Stp.cells])⟩⟩⟩
        case s8 =>
          intro val ρ W hE hd hA
          have hE0 : Ext X0 W := Ext.trans' (by exact (by repeat (first | exact Below.refl _ _ | refine Ext.al ?_ _ | refine Ext.dr ?_ | refine Ext.drN ?_ _ | refine Ext.gr ?_ _ | refine Ext.set ?_ (by simp) _ | (refine Ext.trans' ?_ (by assumption))))) hE
          have d1 : ρ (.tmp 111) = _ := hA.dep 7 (by decide) 111 rfl
          have d2 : (∃ b, val 7 = .slice (some ⟨b, 0, none⟩) 2 2) ∧ IsStps W (val 7) [⟨false, 0, false⟩, ⟨false, 1, true⟩] := hd 7 (by decide)
          refine run1_call 58 _ _ rfl #[val 7] (hA.func _) (by simp [d1]) (fun args W => Try.call58 args W) ((wayL_any (val 7) W).mono ?_)
          rintro e w' ⟨rfl, hb⟩
          exact ⟨_, rfl, hb, d2.1, d2.2.ext hb⟩
        case s9 =>
          intro val ρ W hE hd hA
          have hE0 : Ext X0 W := Ext.trans' (by exact (by repeat (first | exact Below.refl _ _ | refine Ext.al ?_ _ | refine Ext.dr ?_ | refine Ext.drN ?_ _ | refine Ext.gr ?_ _ | refine Ext.set ?_ (by simp) _ | (refine Ext.trans' ?_ (by assumption))))) hE
          obtain ⟨⟨b4, e4⟩, i4⟩ : (∃ b, val 4 = .slice (some ⟨b, 0, none⟩) 2 2) ∧ IsStps W (val 4) [⟨false, 0, false⟩, ⟨false, 1, true⟩] := hd 4 (by decide)
          have d4 : ρ (.tmp 108) = .slice (some ⟨b4, 0, none⟩) 2 2 := (hA.dep 4 (by decide) 108 rfl).trans e4
          rw [e4] at i4
          obtain ⟨⟨b8, e8⟩, i8⟩ : (∃ b, val 8 = .slice (some ⟨b, 0, none⟩) 2 2) ∧ IsStps W (val 8) [⟨false, 0, false⟩, ⟨false, 1, true⟩] := hd 8 (by decide)
          have d8 : ρ (.tmp 112) = .slice (some ⟨b8, 0, none⟩) 2 2 := (hA.dep 8 (by decide) 112 rfl).trans e8
          rw [e8] at i8
          clear hd hA
          refine run1_val (by simp [execOp, d4, d8, go_sem]; exact ⟨rfl, rfl⟩) (by exact (by repeat (first | exact Below.refl _ _ | refine Ext.al ?_ _ | refine Ext.dr ?_ | refine Ext.drN ?_ _ | refine Ext.gr ?_ _ | refine Ext.set ?_ (by simp) _ | (refine Ext.trans' ?_ (by assumption))))) ⟨[((.slice (some ⟨b4, 0, none⟩) 2 2), [⟨false, 0, false⟩, ⟨false, 1, true⟩]), ((.slice (some ⟨b8, 0, none⟩) 2 2), [⟨false, 0, false⟩, ⟨false, 1, true⟩])], ⟨_, rfl⟩, ⟨⟨_, 2, rfl, by simp, by omega, .inr ⟨_, 0, rfl, newRows _ [[(.slice (some ⟨b4, 0, none⟩) 2 2)], [(.slice (some ⟨b8, 0, none⟩) 2 2)]] _ _ _ 1 rfl (by simp) (by simp)⟩⟩, fun x hx => ?_⟩, rfl⟩
          simp only [List.mem_cons, List.not_mem_nil, or_false] at hx
          rcases hx with rfl | rfl
          · exact i4.ext (by exact (by repeat (first | exact Below.refl _ _ | refine Ext.al ?_ _ | refine Ext.dr ?_ | refine Ext.drN ?_ _ | refine Ext.gr ?_ _ | refine Ext.set ?_ (by simp) _ | (refine Ext.trans' ?_ (by assumption)))))
          · exact i8.ext (by exact (by repeat (first | exact Below.refl _ _ | refine Ext.al ?_ _ | refine Ext.dr ?_ | refine Ext.drN ?_ _ | refine Ext.gr ?_ _ | refine Ext.set ?_ (by simp) _ | (refine Ext.trans' ?_ (by assumption)))))
        case s10 =>
          intro val ρ W hE hd hA
          have hE0 : Ext X0 W := Ext.trans' (by exact (by repeat (first | exact Below.refl _ _ | refine Ext.al ?_ _ | refine Ext.dr ?_ | refine Ext.drN ?_ _ | refine Ext.gr ?_ _ | refine Ext.set ?_ (by simp) _ | (refine Ext.trans' ?_ (by assumption))))) hE
          have d0 : ρ (.tmp 104) = .agg #[.int .i64 K.n, .int .i64 K.most, .slice ka K.cs.length kcap] := (hA.dep 0 (by decide) 104 rfl).trans (hd 0 (by decide))
          have d1 : ρ (.tmp 113) = _ := hA.dep 9 (by decide) 113 rfl
          obtain ⟨ps, d2, d3, d4⟩ : ∃ ps, (∃ b, val 9 = .slice (some ⟨b, 0, none⟩) 2 2) ∧ IsRngs W (val 9) ps ∧ ps.map (·.2) = [[⟨false, 0, false⟩, ⟨false, 1, true⟩], [⟨false, 0, false⟩, ⟨false, 1, true⟩]] := hd 9 (by decide)
          refine run1_call 34 _ _ rfl #[.agg #[.int .i64 K.n, .int .i64 K.most, .slice ka K.cs.length kcap], val 9] (hA.func _) (by simp [d0, d1]) (fun args W => Try.call34 args W) ((checkRings_any K _ (val 9) ps W (HK.out.ext hE0) d3).mono ?_)
          rintro e w' ⟨rfl, hb⟩
          rw [d4, ringsN, V12.out]
          exact ⟨_, rfl, hb, rfl⟩
        case s11 =>
          intro val ρ W hE hd hA
          have hE0 : Ext X0 W := Ext.trans' (by exact (by repeat (first | exact Below.refl _ _ | refine Ext.al ?_ _ | refine Ext.dr ?_ | refine Ext.drN ?_ _ | refine Ext.gr ?_ _ | refine Ext.set ?_ (by simp) _ | (refine Ext.trans' ?_ (by assumption))))) hE
          exact run1_move (.tmp 114) rfl ((hA.dep 10 (by decide) 114 rfl).trans (hd 10 (by decide)))
        case s12 =>
          intro val ρ W hE hd hA
          have hE0 : Ext X0 W := Ext.trans' (by exact (by repeat (first | exact Below.refl _ _ | refine Ext.al ?_ _ | refine Ext.dr ?_ | refine Ext.drN ?_ _ | refine Ext.gr ?_ _ | refine Ext.set ?_ (by simp) _ | (refine Ext.trans' ?_ (by assumption))))) hE
          exact run1_extract (.tmp 103) 0 rfl _ _ ((hA.dep 11 (by decide) 103 rfl).trans (hd 11 (by decide))) rfl rfl
        case s13 =>
          intro val ρ W hE hd hA
          have hE0 : Ext X0 W := Ext.trans' (by exact (by repeat (first | exact Below.refl _ _ | refine Ext.al ?_ _ | refine Ext.dr ?_ | refine Ext.drN ?_ _ | refine Ext.gr ?_ _ | refine Ext.set ?_ (by simp) _ | (refine Ext.trans' ?_ (by assumption))))) hE
          exact run1_extract (.tmp 103) 1 rfl _ _ ((hA.dep 11 (by decide) 103 rfl).trans (hd 11 (by decide))) rfl rfl
        case s14 =>
          intro val ρ W hE hd hA
          have hE0 : Ext X0 W := Ext.trans' (by exact (by repeat (first | exact Below.refl _ _ | refine Ext.al ?_ _ | refine Ext.dr ?_ | refine Ext.drN ?_ _ | refine Ext.gr ?_ _ | refine Ext.set ?_ (by simp) _ | (refine Ext.trans' ?_ (by assumption))))) hE
          exact run1_assign (.tmp 115) rfl ((hA.dep 12 (by decide) 115 rfl).trans (hd 12 (by decide)))
        case s15 =>
          intro val ρ W hE hd hA
          have hE0 : Ext X0 W := Ext.trans' (by exact (by repeat (first | exact Below.refl _ _ | refine Ext.al ?_ _ | refine Ext.dr ?_ | refine Ext.drN ?_ _ | refine Ext.gr ?_ _ | refine Ext.set ?_ (by simp) _ | (refine Ext.trans' ?_ (by assumption))))) hE
          exact run1_assign (.tmp 116) rfl ((hA.dep 13 (by decide) 116 rfl).trans (hd 13 (by decide)))
        case send =>
          intro val W hE hv
          have hE0 : Ext X0 W := Ext.trans' (by exact (by repeat (first | exact Below.refl _ _ | refine Ext.al ?_ _ | refine Ext.dr ?_ | refine Ext.drN ?_ _ | refine Ext.gr ?_ _ | refine Ext.set ?_ (by simp) _ | (refine Ext.trans' ?_ (by assumption))))) hE
          obtain ⟨-, -, -, -, -, -, -, -, -, -, -, -, q12, q13, q14, q15, -⟩ := hv
          replace HT := Lib.hid (HT.out.ext hE)
          replace HL := Lib.hid (HL.out.ext hE)
          replace HR := Lib.hid (HR.out.ext hE)
          obtain ⟨g12, rfl⟩ := grow_of hE0
          have q12 : val 12 = .int .i64 0 := q12
          have q13 : val 13 = .int .i64 14 := q13
          have q14 : val 14 = .int .i64 0 := q14
          have q15 : val 15 = .int .i64 14 := q15
          clear hE hE0
          simp only [putD, q12, q13, q14, q15]
          go_frame
          clear q12 q13 q14 q15
          go_wp2_with fail
          refine callWR (W0 := X0) (g := g12) (by exact (by repeat (first | exact Below.refl _ _ | refine Ext.al ?_ _ | refine Ext.dr ?_ | refine Ext.drN ?_ _ | refine Ext.gr ?_ _ | refine Ext.set ?_ (by simp) _ | (refine Ext.trans' ?_ (by assumption))))) (wrong_fin K _ _ (HK.out.ext (by exact (by repeat (first | exact Below.refl _ _ | refine Ext.al ?_ _ | refine Ext.dr ?_ | refine Ext.drN ?_ _ | refine Ext.gr ?_ _ | refine Ext.set ?_ (by simp) _ | (refine Ext.trans' ?_ (by assumption))))))) (fun _ _ r => r.ext) fun e g13 hgr hr => ?_
          obtain ⟨xv, rfl, -, hX⟩ := hr
          rw [V13a.out]
          rw [V13b.out] at hX
          obtain ⟨xa, xcap, rfl, -⟩ := hX.spec
          have HX := Lib.hid hX
          replace HT := Lib.hid (HT.out.ext hgr)
          replace HL := Lib.hid (HL.out.ext hgr)
          replace HR := Lib.hid (HR.out.ext hgr)
          clear hgr hX
          go_wp2_with fail
          refine callW (W0 := X0) (g := g13) (by exact (by repeat (first | exact Below.refl _ _ | refine Ext.al ?_ _ | refine Ext.dr ?_ | refine Ext.drN ?_ _ | refine Ext.gr ?_ _ | refine Ext.set ?_ (by simp) _ | (refine Ext.trans' ?_ (by assumption))))) (lists_any J _ _ (HJ.out.ext (by exact (by repeat (first | exact Below.refl _ _ | refine Ext.al ?_ _ | refine Ext.dr ?_ | refine Ext.drN ?_ _ | refine Ext.gr ?_ _ | refine Ext.set ?_ (by simp) _ | (refine Ext.trans' ?_ (by assumption))))))) fun g14 hgr => ?_
          rw [V14a.out, V14b.out]
          replace HT := Lib.hid (HT.out.ext hgr)
          replace HL := Lib.hid (HL.out.ext hgr)
          replace HR := Lib.hid (HR.out.ext hgr)
          replace HX := Lib.hid (HX.out.ext hgr)
          clear hgr
          go_wp2_with fail
          refine callW (W0 := X0) (g := g14) (by exact (by repeat (first | exact Below.refl _ _ | refine Ext.al ?_ _ | refine Ext.dr ?_ | refine Ext.drN ?_ _ | refine Ext.gr ?_ _ | refine Ext.set ?_ (by simp) _ | (refine Ext.trans' ?_ (by assumption))))) (kind_fin J _ 1 _ (HJ.out.ext (by exact (by repeat (first | exact Below.refl _ _ | refine Ext.al ?_ _ | refine Ext.dr ?_ | refine Ext.drN ?_ _ | refine Ext.gr ?_ _ | refine Ext.set ?_ (by simp) _ | (refine Ext.trans' ?_ (by assumption))))))) fun g15 hgr => ?_
          rw [V15a.out, V15b.out]
          replace HT := Lib.hid (HT.out.ext hgr)
          replace HL := Lib.hid (HL.out.ext hgr)
          replace HR := Lib.hid (HR.out.ext hgr)
          replace HX := Lib.hid (HX.out.ext hgr)
          clear hgr
          have hwe : wayE H 2 1 ls = (-4, 0) := by
            obtain ⟨q1, q2, q3⟩ := HWO.out.1 V8a.out
            have ho : openE H [2, 1] = 0 := by
              have := V8a.out
              unfold wayErr at this
              by_cases hh : openE H [2, 1] = 0
              · exact hh
              · rw [if_pos hh] at this; exact this
            rw [wayE_of ho (by omega) q1, q2]
            exact congrArg (fun z => (z, (0 : Int))) V8b.out
          have hre : ringsErrR J [rs] = 0 := by
            obtain ⟨q1, q2, q3⟩ := HRO.out.1 V9.out
            exact ringsErrR_one V14a.out (by omega) q2 q1
          have htr : truthE H (truthL H) = 0 := V3b.out
          have heq : ∀ W, (binOp .eql 35 (.agg #[.int .i64 4, .int .i64 9]) (.agg #[.int .i64 4, .int .i64 9])).run Try.prog W = .ok (.bool true) W := fun _ => by kernel_rfl
          have HWE := Lib.hid hwe
          have HRE := Lib.hid hre
          have HTR := Lib.hid htr
          clear hwe hre htr
          go_upto_region 19 with (fail)
          go_wp2_with fail
          refine callW (W0 := X0) (g := g15) (by exact (by repeat (first | exact Below.refl _ _ | refine Ext.al ?_ _ | refine Ext.dr ?_ | refine Ext.drN ?_ _ | refine Ext.gr ?_ _ | refine Ext.set ?_ (by simp) _ | (refine Ext.trans' ?_ (by assumption))))) (checkWayR_any H _ _ 2 1 ls _ (HH.out.ext (by exact (by repeat (first | exact Below.refl _ _ | refine Ext.al ?_ _ | refine Ext.dr ?_ | refine Ext.drN ?_ _ | refine Ext.gr ?_ _ | refine Ext.set ?_ (by simp) _ | (refine Ext.trans' ?_ (by assumption)))))) (HL.out.ext (by exact (by repeat (first | exact Below.refl _ _ | refine Ext.al ?_ _ | refine Ext.dr ?_ | refine Ext.drN ?_ _ | refine Ext.gr ?_ _ | refine Ext.set ?_ (by simp) _ | (refine Ext.trans' ?_ (by assumption))))))) fun g16 hgr => ?_
          rw [HWE.out]
          replace HT := Lib.hid (HT.out.ext hgr)
          replace HR := Lib.hid (HR.out.ext hgr)
          replace HX := Lib.hid (HX.out.ext hgr)
          clear hgr
          go_wp2_with fail
          refine callW (W0 := X0) (g := g16) (by exact (by repeat (first | exact Below.refl _ _ | refine Ext.al ?_ _ | refine Ext.dr ?_ | refine Ext.drN ?_ _ | refine Ext.gr ?_ _ | refine Ext.set ?_ (by simp) _ | (refine Ext.trans' ?_ (by assumption))))) (checkTruthR_any H _ _ (truthL H) _ (HH.out.ext (by exact (by repeat (first | exact Below.refl _ _ | refine Ext.al ?_ _ | refine Ext.dr ?_ | refine Ext.drN ?_ _ | refine Ext.gr ?_ _ | refine Ext.set ?_ (by simp) _ | (refine Ext.trans' ?_ (by assumption)))))) (HT.out.ext (by exact (by repeat (first | exact Below.refl _ _ | refine Ext.al ?_ _ | refine Ext.dr ?_ | refine Ext.drN ?_ _ | refine Ext.gr ?_ _ | refine Ext.set ?_ (by simp) _ | (refine Ext.trans' ?_ (by assumption))))))) fun g17 hgr => ?_
          rw [HTR.out]
          replace HR := Lib.hid (HR.out.ext hgr)
          replace HX := Lib.hid (HX.out.ext hgr)
          clear hgr
          go_wp2_with fail
          refine callW (W0 := X0) (g := g17) (by exact (by repeat (first | exact Below.refl _ _ | refine Ext.al ?_ _ | refine Ext.dr ?_ | refine Ext.drN ?_ _ | refine Ext.gr ?_ _ | refine Ext.set ?_ (by simp) _ | (refine Ext.trans' ?_ (by assumption))))) (isRingL_any J _ _ rs _ (HJ.out.ext (by exact (by repeat (first | exact Below.refl _ _ | refine Ext.al ?_ _ | refine Ext.dr ?_ | refine Ext.drN ?_ _ | refine Ext.gr ?_ _ | refine Ext.set ?_ (by simp) _ | (refine Ext.trans' ?_ (by assumption)))))) (HR.out.ext (by exact (by repeat (first | exact Below.refl _ _ | refine Ext.al ?_ _ | refine Ext.dr ?_ | refine Ext.drN ?_ _ | refine Ext.gr ?_ _ | refine Ext.set ?_ (by simp) _ | (refine Ext.trans' ?_ (by assumption))))))) fun g18 hgr => ?_
          rw [HRE.out]
          replace HX := Lib.hid (HX.out.ext hgr)
          clear hgr
          go_wp2_with fail
          refine callW (W0 := X0) (g := g18) (by exact (by repeat (first | exact Below.refl _ _ | refine Ext.al ?_ _ | refine Ext.dr ?_ | refine Ext.drN ?_ _ | refine Ext.gr ?_ _ | refine Ext.set ?_ (by simp) _ | (refine Ext.trans' ?_ (by assumption))))) (ints_any [0] [0] _ _ _ (HX.out.ext (by exact (by repeat (first | exact Below.refl _ _ | refine Ext.al ?_ _ | refine Ext.dr ?_ | refine Ext.drN ?_ _ | refine Ext.gr ?_ _ | refine Ext.set ?_ (by simp) _ | (refine Ext.trans' ?_ (by assumption)))))) (isInts_one' (by omega) (by omega) (by simp [go_sem]))) fun g19 hgr => ?_
          rw [show decide (([0] : List Int) = [0]) = true from rfl]
          clear hgr
          go_wp2_with fail
          go_ret
          exact ⟨rfl, HE1.out.trans' (grow_below X0 g19)⟩
end Go.Proofs.Ytgcldgchhdjnhaa
