/-
  The statement CutKnown holds: the examples of the chapter. A closed statement; no condition.
-/
import Derived.Test.YtgcldgchhdjnhaaLawG
import Derived.Test.YtgcldgchhdjnhaaOpenA
namespace Go.Proofs.Ytgcldgchhdjnhaa
open Go.RowKit Go.Shelf
theorem u1 : spanLo (hallX 25 26) 0 0 = 3 ∧ spanHi (hallX 25 26) 0 0 = 6 ∧ spanE (hallX 25 26) 0 0 = 0 := ⟨by kernel_rfl, by kernel_rfl, by kernel_rfl⟩
theorem u2 : spanLo (hallX 25 26) 2 2 = 13 ∧ spanHi (hallX 25 26) 2 2 = 16 ∧ spanE (hallX 25 26) 2 2 = 0 := ⟨by kernel_rfl, by kernel_rfl, by kernel_rfl⟩
theorem u3 : spanLo (hallX 25 26) 0 2 = 25 ∧ spanHi (hallX 25 26) 0 2 = 26 ∧ spanE (hallX 25 26) 0 2 = 0 := ⟨by kernel_rfl, by kernel_rfl, by kernel_rfl⟩
theorem u4 : spanE (hallX 40 41) 0 0 = 5 := by kernel_rfl
theorem u5 : wayE (hallX 25 26) 1 2 [⟨true, 1, false⟩] = (100, 0) := by kernel_rfl
theorem u6 : wayE (hallX 25 26) 2 1 [⟨true, 1, true⟩] = (0, 0) := by kernel_rfl
theorem u7 : wayErr (hallX 25 26) 1 2 = 0 ∧ (leastM (hallX 25 26) 1).1.sums 2 = 9 := ⟨by kernel_rfl, by kernel_rfl⟩
theorem u8 : ringsErr hallK [[⟨false, 0, false⟩, ⟨false, 1, true⟩]] = 0 := by kernel_rfl
theorem u9 : ringsErr hallK [[⟨false, 0, true⟩, ⟨false, 1, false⟩]] = 16 := by kernel_rfl
theorem u10 : chk (hallX 40 41) = 0 ∧ wrongL (hallX 40 41) = [0] := ⟨by kernel_rfl, by kernel_rfl⟩
theorem u11 : chk (hallX 25 26) = 0 ∧ wrongL (hallX 25 26) = [] := ⟨by kernel_rfl, by kernel_rfl⟩
theorem u12 : chk hallK = 0 ∧ listsN hallK = 1 := ⟨by kernel_rfl, by kernel_rfl⟩
theorem u13 : kindErr hallK 0 = 0 ∧ kindN hallK 0 = 2 := ⟨by kernel_rfl, by kernel_rfl⟩
theorem u14 : kindErr hallK 1 = 0 ∧ kindN hallK 1 = 0 := ⟨by kernel_rfl, by kernel_rfl⟩
set_option maxRecDepth 100000 in
set_option maxHeartbeats 8000000 in
theorem cutKnown_any (w : World) : Calls Try.prog 16 #[] w fun e w' => e = .returned (.bool true) ∧ Ext w w' := by
  obtain ⟨H, hH⟩ : ∃ H, H = hallX 25 26 := ⟨_, rfl⟩
  obtain ⟨J, hJ⟩ : ∃ J, J = hallX 40 41 := ⟨_, rfl⟩
  obtain ⟨K, hK⟩ : ∃ K, K = hallK := ⟨_, rfl⟩
  have cH := fun w => hall_any 25 26 w
  have cJ := fun w => hall_any 40 41 w
  have cK := fun w => three_any w
  obtain ⟨v1, v1b, v1c⟩ := u1
  obtain ⟨v2, v2b, v2c⟩ := u2
  obtain ⟨v3, v3b, v3c⟩ := u3
  have v4 := u4
  have v5 := u5
  have v6 := u6
  obtain ⟨v7, v7b⟩ := u7
  have v8 := u8
  have v9 := u9
  obtain ⟨v10, v10b⟩ := u10
  obtain ⟨v11, v11b⟩ := u11
  obtain ⟨v12, v12b⟩ := u12
  obtain ⟨v13, v13b⟩ := u13
  obtain ⟨v14, v14b⟩ := u14
  rw [← hH] at cH v1 v1b v1c v2 v2b v2c v3 v3b v3c v5 v6 v7 v7b v11 v11b
  rw [← hJ] at cJ v4 v10 v10b
  rw [← hK] at cK v8 v9 v12 v12b v13 v13b v14 v14b
  have V1 := Lib.hid v1
  have V1b := Lib.hid v1b
  have V1c := Lib.hid v1c
  have V2 := Lib.hid v2
  have V2b := Lib.hid v2b
  have V2c := Lib.hid v2c
  have V3 := Lib.hid v3
  have V3b := Lib.hid v3b
  have V3c := Lib.hid v3c
  have V4 := Lib.hid v4
  have V5 := Lib.hid v5
  have V6 := Lib.hid v6
  have V7 := Lib.hid v7
  have V7b := Lib.hid v7b
  have V8 := Lib.hid v8
  have V9 := Lib.hid v9
  have V10 := Lib.hid v10
  have V10b := Lib.hid v10b
  have V11 := Lib.hid v11
  have V11b := Lib.hid v11b
  have V12 := Lib.hid v12
  have V12b := Lib.hid v12b
  have V13 := Lib.hid v13
  have V13b := Lib.hid v13b
  have V14 := Lib.hid v14
  have V14b := Lib.hid v14b
  have CH := Lib.hid cH
  have CJ := Lib.hid cJ
  have CK := Lib.hid cK
  clear v1 v1b v1c v2 v2b v2c v3 v3b v3c v4 v5 v6 v7 v7b v8 v9 v10 v10b v11 v11b v12 v12b v13 v13b v14 v14b cH cJ cK hH hJ hK
  go_enter Try.func16, Try.ntmps16
  go_wp2_with fail
  refine (CH.out w).mono ?_
  rintro e W1 ⟨sh, rfl, hE1, hC1⟩
  obtain ⟨ha, hcap, rfl, -⟩ := hC1.spec
  have HC1 := Lib.hid hC1
  have HE1 := Lib.hid hE1
  clear hC1 hE1
  go_wp2_with fail
  refine (CJ.out W1).mono ?_
  rintro e W2 ⟨sj, rfl, hE2, hC2⟩
  obtain ⟨ja, jcap, rfl, -⟩ := hC2.spec
  have HC2 := Lib.hid hC2
  have HE2 := Lib.hid (HE1.out.trans' hE2)
  have HC1' := Lib.hid (HC1.out.ext hE2)
  clear hC2 hE2
  go_wp2_with fail
  refine (CK.out W2).mono ?_
  rintro e W3 ⟨sk, rfl, hE3, hC3⟩
  obtain ⟨ka, kcap, rfl, -⟩ := hC3.spec
  have HC3 := Lib.hid hC3
  have HE3 := Lib.hid (HE2.out.trans' hE3)
  have HC1'' := Lib.hid (HC1'.out.ext hE3)
  have HC2' := Lib.hid (HC2.out.ext hE3)
  clear hC3 hE3 CH CJ CK HC1 HC2 HC1' HE1 HE2
  go_upto_region 2 with (fail)
  obtain ⟨W0, hW0⟩ : ∃ W0, W0 = ((W3.alloc (.cells #[.int .i64 H.n, .int .i64 H.most, .slice ha H.cs.length hcap] 24)).alloc (.cells #[.int .i64 J.n, .int .i64 J.most, .slice ja J.cs.length jcap] 24)).alloc (.cells #[.int .i64 K.n, .int .i64 K.most, .slice ka K.cs.length kcap] 24) := ⟨_, rfl⟩
  have hE0 : Ext W3 W0 := by rw [hW0]; exact (by repeat (first | exact Below.refl _ _ | refine Ext.al ?_ _ | refine Ext.dr ?_ | refine Ext.drN ?_ _ | refine Ext.gr ?_ _ | refine Ext.set ?_ (by simp) _ | (refine Ext.trans' ?_ (by assumption))))
  have h0 : W0.cell? ⟨W3.heap.size, 0, none⟩ = some (.int .i64 H.n) := by rw [hW0]; simp [go_sem]
  have h1 : W0.cell? ⟨W3.heap.size, 1, none⟩ = some (.int .i64 H.most) := by rw [hW0]; simp [go_sem]
  have h2 : W0.cell? ⟨W3.heap.size, 2, none⟩ = some (.slice ha H.cs.length hcap) := by rw [hW0]; simp [go_sem]
  have j0 : W0.cell? ⟨W3.heap.size + 1, 0, none⟩ = some (.int .i64 J.n) := by rw [hW0]; simp [go_sem]
  have j1 : W0.cell? ⟨W3.heap.size + 1, 1, none⟩ = some (.int .i64 J.most) := by rw [hW0]; simp [go_sem]
  have j2 : W0.cell? ⟨W3.heap.size + 1, 2, none⟩ = some (.slice ja J.cs.length jcap) := by rw [hW0]; simp [go_sem]
  have k0 : W0.cell? ⟨W3.heap.size + 1 + 1, 0, none⟩ = some (.int .i64 K.n) := by rw [hW0]; simp [go_sem]
  have k1 : W0.cell? ⟨W3.heap.size + 1 + 1, 1, none⟩ = some (.int .i64 K.most) := by rw [hW0]; simp [go_sem]
  have k2 : W0.cell? ⟨W3.heap.size + 1 + 1, 2, none⟩ = some (.slice ka K.cs.length kcap) := by rw [hW0]; simp [go_sem]
  have z1 : W3.heap.size < W0.heap.size := World.block_lt_of_cell? _ _ h0
  have z2 : W3.heap.size + 1 < W0.heap.size := World.block_lt_of_cell? _ _ j0
  have z3 : W3.heap.size + 1 + 1 < W0.heap.size := World.block_lt_of_cell? _ _ k0
  have HH := Lib.hid (HC1''.out.ext hE0)
  have HJ := Lib.hid (HC2'.out.ext hE0)
  have HK := Lib.hid (HC3.out.ext hE0)
  have HW := Lib.hid (HE3.out.trans' hE0)
  rw [← hW0]
  clear hW0 hE0 HC1'' HC2' HC3 HE3




  go_wp2_with fail
  refine callW (W0 := W0) (g := ⟨W0, Below.refl _ _⟩) (by exact (by repeat (first | exact Below.refl _ _ | refine Ext.al ?_ _ | refine Ext.dr ?_ | refine Ext.drN ?_ _ | refine Ext.gr ?_ _ | refine Ext.set ?_ (by simp) _ | (refine Ext.trans' ?_ (by assumption))))) (span_any H _ 0 0 _ (HH.out.ext (by exact (by repeat (first | exact Below.refl _ _ | refine Ext.al ?_ _ | refine Ext.dr ?_ | refine Ext.drN ?_ _ | refine Ext.gr ?_ _ | refine Ext.set ?_ (by simp) _ | (refine Ext.trans' ?_ (by assumption))))))) fun g1 hgr => ?_
  clear hgr
  rw [V1.out, V1b.out, V1c.out]
  go_upto_region 3 with (fail)
  obtain ⟨X0, hX0⟩ : ∃ zz9, zz9 = (grow W0 g1).alloc (.cells #[.int .i64 3, .int .i64 6] 35) := ⟨_, rfl⟩
  have x0 : X0.cell? ⟨(grow W0 g1).heap.size, 0, none⟩ = some (.int .i64 3) := by rw [hX0]; simp [go_sem]
  have x1 : X0.cell? ⟨(grow W0 g1).heap.size, 1, none⟩ = some (.int .i64 6) := by rw [hX0]; simp [go_sem]
  have eX0 : Ext W0 X0 := by rw [hX0]; exact (by repeat (first | exact Below.refl _ _ | refine Ext.al ?_ _ | refine Ext.dr ?_ | refine Ext.drN ?_ _ | refine Ext.gr ?_ _ | refine Ext.set ?_ (by simp) _ | (refine Ext.trans' ?_ (by assumption))))
  replace h0 := cell_ext eX0 h0
  replace h1 := cell_ext eX0 h1
  replace h2 := cell_ext eX0 h2
  replace j0 := cell_ext eX0 j0
  replace j1 := cell_ext eX0 j1
  replace j2 := cell_ext eX0 j2
  replace k0 := cell_ext eX0 k0
  replace k1 := cell_ext eX0 k1
  replace k2 := cell_ext eX0 k2
  replace HH := Lib.hid (HH.out.ext eX0)
  replace HJ := Lib.hid (HJ.out.ext eX0)
  replace HK := Lib.hid (HK.out.ext eX0)
  replace HW := Lib.hid (HW.out.trans' eX0)
  rw [← hX0]
  obtain ⟨bS, hbS⟩ : ∃ b, b = (grow W0 g1).heap.size := ⟨_, rfl⟩
  rw [← hbS] at x0 x1 ⊢
  replace z1 := World.block_lt_of_cell? _ _ h0
  replace z2 := World.block_lt_of_cell? _ _ j0
  replace z3 := World.block_lt_of_cell? _ _ k0
  have zbS := World.block_lt_of_cell? _ _ x0
  simp only at zbS
  clear hX0 eX0 hbS
  go_wp2_with fail
  refine callW (W0 := X0) (g := ⟨X0, Below.refl _ _⟩) (by exact (by repeat (first | exact Below.refl _ _ | refine Ext.al ?_ _ | refine Ext.dr ?_ | refine Ext.drN ?_ _ | refine Ext.gr ?_ _ | refine Ext.set ?_ (by simp) _ | (refine Ext.trans' ?_ (by assumption))))) (span_any H _ 2 2 _ (HH.out.ext (by exact (by repeat (first | exact Below.refl _ _ | refine Ext.al ?_ _ | refine Ext.dr ?_ | refine Ext.drN ?_ _ | refine Ext.gr ?_ _ | refine Ext.set ?_ (by simp) _ | (refine Ext.trans' ?_ (by assumption))))))) fun g2 hgr => ?_
  clear hgr
  rw [V2.out, V2b.out, V2c.out]
  go_upto_region 4 with (fail)
  obtain ⟨X1, hX1⟩ : ∃ zz9, zz9 = (grow X0 g2).alloc (.cells #[.int .i64 13, .int .i64 16] 35) := ⟨_, rfl⟩
  have y0 : X1.cell? ⟨(grow X0 g2).heap.size, 0, none⟩ = some (.int .i64 13) := by rw [hX1]; simp [go_sem]
  have y1 : X1.cell? ⟨(grow X0 g2).heap.size, 1, none⟩ = some (.int .i64 16) := by rw [hX1]; simp [go_sem]
  have eX1 : Ext X0 X1 := by rw [hX1]; exact (by repeat (first | exact Below.refl _ _ | refine Ext.al ?_ _ | refine Ext.dr ?_ | refine Ext.drN ?_ _ | refine Ext.gr ?_ _ | refine Ext.set ?_ (by simp) _ | (refine Ext.trans' ?_ (by assumption))))
  replace h0 := cell_ext eX1 h0
  replace h1 := cell_ext eX1 h1
  replace h2 := cell_ext eX1 h2
  replace j0 := cell_ext eX1 j0
  replace j1 := cell_ext eX1 j1
  replace j2 := cell_ext eX1 j2
  replace k0 := cell_ext eX1 k0
  replace k1 := cell_ext eX1 k1
  replace k2 := cell_ext eX1 k2
  replace x0 := cell_ext eX1 x0
  replace x1 := cell_ext eX1 x1
  replace HH := Lib.hid (HH.out.ext eX1)
  replace HJ := Lib.hid (HJ.out.ext eX1)
  replace HK := Lib.hid (HK.out.ext eX1)
  replace HW := Lib.hid (HW.out.trans' eX1)
  rw [← hX1]
  obtain ⟨bR, hbR⟩ : ∃ b, b = (grow X0 g2).heap.size := ⟨_, rfl⟩
  rw [← hbR] at y0 y1 ⊢
  replace z1 := World.block_lt_of_cell? _ _ h0
  replace z2 := World.block_lt_of_cell? _ _ j0
  replace z3 := World.block_lt_of_cell? _ _ k0
  replace zbS := World.block_lt_of_cell? _ _ x0
  have zbR := World.block_lt_of_cell? _ _ y0
  simp only at zbR
  clear hX1 eX1 hbR
  go_wp2_with fail
  refine callW (W0 := X1) (g := ⟨X1, Below.refl _ _⟩) (by exact (by repeat (first | exact Below.refl _ _ | refine Ext.al ?_ _ | refine Ext.dr ?_ | refine Ext.drN ?_ _ | refine Ext.gr ?_ _ | refine Ext.set ?_ (by simp) _ | (refine Ext.trans' ?_ (by assumption))))) (span_any H _ 0 2 _ (HH.out.ext (by exact (by repeat (first | exact Below.refl _ _ | refine Ext.al ?_ _ | refine Ext.dr ?_ | refine Ext.drN ?_ _ | refine Ext.gr ?_ _ | refine Ext.set ?_ (by simp) _ | (refine Ext.trans' ?_ (by assumption))))))) fun g3 hgr => ?_
  clear hgr
  rw [V3.out, V3b.out, V3c.out]
  go_upto_region 5 with (fail)
  obtain ⟨X2, hX2⟩ : ∃ zz9, zz9 = (grow X1 g3).alloc (.cells #[.int .i64 25, .int .i64 26] 35) := ⟨_, rfl⟩
  have t0 : X2.cell? ⟨(grow X1 g3).heap.size, 0, none⟩ = some (.int .i64 25) := by rw [hX2]; simp [go_sem]
  have t1 : X2.cell? ⟨(grow X1 g3).heap.size, 1, none⟩ = some (.int .i64 26) := by rw [hX2]; simp [go_sem]
  have eX2 : Ext X1 X2 := by rw [hX2]; exact (by repeat (first | exact Below.refl _ _ | refine Ext.al ?_ _ | refine Ext.dr ?_ | refine Ext.drN ?_ _ | refine Ext.gr ?_ _ | refine Ext.set ?_ (by simp) _ | (refine Ext.trans' ?_ (by assumption))))
  replace h0 := cell_ext eX2 h0
  replace h1 := cell_ext eX2 h1
  replace h2 := cell_ext eX2 h2
  replace j0 := cell_ext eX2 j0
  replace j1 := cell_ext eX2 j1
  replace j2 := cell_ext eX2 j2
  replace k0 := cell_ext eX2 k0
  replace k1 := cell_ext eX2 k1
  replace k2 := cell_ext eX2 k2
  replace x0 := cell_ext eX2 x0
  replace x1 := cell_ext eX2 x1
  replace y0 := cell_ext eX2 y0
  replace y1 := cell_ext eX2 y1
  replace HH := Lib.hid (HH.out.ext eX2)
  replace HJ := Lib.hid (HJ.out.ext eX2)
  replace HK := Lib.hid (HK.out.ext eX2)
  replace HW := Lib.hid (HW.out.trans' eX2)
  rw [← hX2]
  obtain ⟨bT, hbT⟩ : ∃ b, b = (grow X1 g3).heap.size := ⟨_, rfl⟩
  rw [← hbT] at t0 t1 ⊢
  replace z1 := World.block_lt_of_cell? _ _ h0
  replace z2 := World.block_lt_of_cell? _ _ j0
  replace z3 := World.block_lt_of_cell? _ _ k0
  replace zbS := World.block_lt_of_cell? _ _ x0
  replace zbR := World.block_lt_of_cell? _ _ y0
  have zbT := World.block_lt_of_cell? _ _ t0
  simp only at zbT
  clear hX2 eX2 hbT
  obtain ⟨lo4, hlo4⟩ : ∃ x, x = spanLo J 0 0 := ⟨_, rfl⟩
  obtain ⟨hi4, hhi4⟩ : ∃ x, x = spanHi J 0 0 := ⟨_, rfl⟩
  have c4 := fun w hs => span_any J (.slice ja J.cs.length jcap) 0 0 w hs
  rw [V4.out, ← hlo4, ← hhi4] at c4
  have C4 := Lib.hid c4
  clear c4 hlo4 hhi4
  go_wp2_with fail
  refine callW (W0 := X2) (g := ⟨X2, Below.refl _ _⟩) (by exact (by repeat (first | exact Below.refl _ _ | refine Ext.al ?_ _ | refine Ext.dr ?_ | refine Ext.drN ?_ _ | refine Ext.gr ?_ _ | refine Ext.set ?_ (by simp) _ | (refine Ext.trans' ?_ (by assumption))))) (C4.out _ (HJ.out.ext (by exact (by repeat (first | exact Below.refl _ _ | refine Ext.al ?_ _ | refine Ext.dr ?_ | refine Ext.drN ?_ _ | refine Ext.gr ?_ _ | refine Ext.set ?_ (by simp) _ | (refine Ext.trans' ?_ (by assumption))))))) fun g4 hgr => ?_
  clear hgr
  go_upto_region 6 with (fail)
  obtain ⟨X3, hX3⟩ : ∃ zz9, zz9 = (grow X2 g4).alloc (.cells #[.int .i64 lo4, .int .i64 hi4] 35) := ⟨_, rfl⟩
  have eX3 : Ext X2 X3 := by rw [hX3]; exact (by repeat (first | exact Below.refl _ _ | refine Ext.al ?_ _ | refine Ext.dr ?_ | refine Ext.drN ?_ _ | refine Ext.gr ?_ _ | refine Ext.set ?_ (by simp) _ | (refine Ext.trans' ?_ (by assumption))))
  replace h0 := cell_ext eX3 h0
  replace h1 := cell_ext eX3 h1
  replace h2 := cell_ext eX3 h2
  replace j0 := cell_ext eX3 j0
  replace j1 := cell_ext eX3 j1
  replace j2 := cell_ext eX3 j2
  replace k0 := cell_ext eX3 k0
  replace k1 := cell_ext eX3 k1
  replace k2 := cell_ext eX3 k2
  replace x0 := cell_ext eX3 x0
  replace x1 := cell_ext eX3 x1
  replace y0 := cell_ext eX3 y0
  replace y1 := cell_ext eX3 y1
  replace t0 := cell_ext eX3 t0
  replace t1 := cell_ext eX3 t1
  replace HH := Lib.hid (HH.out.ext eX3)
  replace HJ := Lib.hid (HJ.out.ext eX3)
  replace HK := Lib.hid (HK.out.ext eX3)
  replace HW := Lib.hid (HW.out.trans' eX3)
  rw [← hX3]
  replace z1 := World.block_lt_of_cell? _ _ h0
  replace z2 := World.block_lt_of_cell? _ _ j0
  replace z3 := World.block_lt_of_cell? _ _ k0
  replace zbS := World.block_lt_of_cell? _ _ x0
  replace zbR := World.block_lt_of_cell? _ _ y0
  replace zbT := World.block_lt_of_cell? _ _ t0
  clear hX3 eX3
  refine wp_region_wander1 [spV (.agg #[.int .i64 H.n, .int .i64 H.most, .slice ha H.cs.length hcap]), spV (.agg #[.bool true, .int .i64 1, .bool false]), spStps 1 [⟨true, 1, false⟩], spStps 1 [⟨true, 1, false⟩], spV (.tuple #[.int .i64 100, .int .i64 0]), spV (.tuple #[.int .i64 100, .int .i64 0]), spV (.int .i64 100), spV (.int .i64 0), spV (.int .i64 100), spV (.int .i64 0)] (by kernel_rfl) (by kernel_rfl) (by kernel_rfl) ⟨?s0, ?s1, ?s2, ?s3, ?s4, ?s5, ?s6, ?s7, ?s8, ?s9, trivial⟩ [some 58, some 59, some 60, some 61, some 62, some 57, some 63, some 64, some 12, some 13] rfl rfl ?send
  case s0 =>
    intro val ρ W hE hd hA
    have hE0 : Ext X3 W := Ext.trans' (by exact (by repeat (first | exact Below.refl _ _ | refine Ext.al ?_ _ | refine Ext.dr ?_ | refine Ext.drN ?_ _ | refine Ext.gr ?_ _ | refine Ext.set ?_ (by simp) _ | (refine Ext.trans' ?_ (by assumption))))) hE
    have e1 : ρ (.tmp 1) = .pointer (some ⟨W3.heap.size, 0, none⟩) := hA.old 1 (by decide)
    clear hd hA
    obtain ⟨g, rfl⟩ := grow_of hE0
    refine run1_val (W' := grow X3 g) (by simp [execOp, e1, go_sem, h0, h1, h2, z1]) (Below.refl _ _) rfl
  case s1 =>
    intro val ρ W hE hd hA
    have hE0 : Ext X3 W := Ext.trans' (by exact (by repeat (first | exact Below.refl _ _ | refine Ext.al ?_ _ | refine Ext.dr ?_ | refine Ext.drN ?_ _ | refine Ext.gr ?_ _ | refine Ext.set ?_ (by simp) _ | (refine Ext.trans' ?_ (by assumption))))) hE
    refine run1_call 59 _ _ rfl #[.int .i64 1] (hA.func _) (by simp [hA.const]) (fun args W => Try.call59 args W) ((stepW_any 1 W).mono ?_)
    rintro e w' ⟨rfl, hb⟩
    exact ⟨_, rfl, hb, rfl⟩
  case s2 =>
    intro val ρ W hE hd hA
    have hE0 : Ext X3 W := Ext.trans' (by exact (by repeat (first | exact Below.refl _ _ | refine Ext.al ?_ _ | refine Ext.dr ?_ | refine Ext.drN ?_ _ | refine Ext.gr ?_ _ | refine Ext.set ?_ (by simp) _ | (refine Ext.trans' ?_ (by assumption))))) hE
    have d1 : ρ (.tmp 59) = .agg #[.bool true, .int .i64 1, .bool false] := (hA.dep 1 (by decide) 59 rfl).trans (hd 1 (by decide))
    clear hd hA
    refine run1_val (by simp [execOp, d1, go_sem]; exact ⟨rfl, rfl⟩) (by exact (by repeat (first | exact Below.refl _ _ | refine Ext.al ?_ _ | refine Ext.dr ?_ | refine Ext.drN ?_ _ | refine Ext.gr ?_ _ | refine Ext.set ?_ (by simp) _ | (refine Ext.trans' ?_ (by assumption))))) ⟨⟨_, rfl⟩, ⟨_, 1, rfl, by simp, by omega, .inr ⟨_, 0, rfl, newRows _ ([⟨true, 1, false⟩].map Stp.cells) _ _ _ 3 rfl (by simp [Stp.cells]) (by simp [Stp.cells])⟩⟩⟩
  case s3 =>
    intro val ρ W hE hd hA
    have hE0 : Ext X3 W := Ext.trans' (by exact (by repeat (first | exact Below.refl _ _ | refine Ext.al ?_ _ | refine Ext.dr ?_ | refine Ext.drN ?_ _ | refine Ext.gr ?_ _ | refine Ext.set ?_ (by simp) _ | (refine Ext.trans' ?_ (by assumption))))) hE
    have d1 : ρ (.tmp 60) = _ := hA.dep 2 (by decide) 60 rfl
    have d2 : (∃ b, val 2 = .slice (some ⟨b, 0, none⟩) 1 1) ∧ IsStps W (val 2) [⟨true, 1, false⟩] := hd 2 (by decide)
    refine run1_call 58 _ _ rfl #[val 2] (hA.func _) (by simp [d1]) (fun args W => Try.call58 args W) ((wayL_any (val 2) W).mono ?_)
    rintro e w' ⟨rfl, hb⟩
    exact ⟨_, rfl, hb, d2.1, d2.2.ext hb⟩
  case s4 =>
    intro val ρ W hE hd hA
    have hE0 : Ext X3 W := Ext.trans' (by exact (by repeat (first | exact Below.refl _ _ | refine Ext.al ?_ _ | refine Ext.dr ?_ | refine Ext.drN ?_ _ | refine Ext.gr ?_ _ | refine Ext.set ?_ (by simp) _ | (refine Ext.trans' ?_ (by assumption))))) hE
    have d0 : ρ (.tmp 58) = .agg #[.int .i64 H.n, .int .i64 H.most, .slice ha H.cs.length hcap] := (hA.dep 0 (by decide) 58 rfl).trans (hd 0 (by decide))
    have d1 : ρ (.tmp 61) = _ := hA.dep 3 (by decide) 61 rfl
    have d2 : (∃ b, val 3 = .slice (some ⟨b, 0, none⟩) 1 1) ∧ IsStps W (val 3) [⟨true, 1, false⟩] := hd 3 (by decide)
    refine run1_call 28 _ _ rfl #[.agg #[.int .i64 H.n, .int .i64 H.most, .slice ha H.cs.length hcap], .int .i64 1, .int .i64 2, val 3] (hA.func _) (by simp [d0, d1, hA.const]) (fun args W => Try.call28 args W) ((checkWay_any H _ (val 3) 1 2 _ W (HH.out.ext hE0) d2.2).mono ?_)
    rintro e w' ⟨rfl, hb⟩
    rw [V5.out]
    exact ⟨_, rfl, hb, rfl⟩
  case s5 =>
    intro val ρ W hE hd hA
    have hE0 : Ext X3 W := Ext.trans' (by exact (by repeat (first | exact Below.refl _ _ | refine Ext.al ?_ _ | refine Ext.dr ?_ | refine Ext.drN ?_ _ | refine Ext.gr ?_ _ | refine Ext.set ?_ (by simp) _ | (refine Ext.trans' ?_ (by assumption))))) hE
    exact run1_move (.tmp 62) rfl ((hA.dep 4 (by decide) 62 rfl).trans (hd 4 (by decide)))
  case s6 =>
    intro val ρ W hE hd hA
    have hE0 : Ext X3 W := Ext.trans' (by exact (by repeat (first | exact Below.refl _ _ | refine Ext.al ?_ _ | refine Ext.dr ?_ | refine Ext.drN ?_ _ | refine Ext.gr ?_ _ | refine Ext.set ?_ (by simp) _ | (refine Ext.trans' ?_ (by assumption))))) hE
    exact run1_extract (.tmp 57) 0 rfl _ _ ((hA.dep 5 (by decide) 57 rfl).trans (hd 5 (by decide))) rfl rfl
  case s7 =>
    intro val ρ W hE hd hA
    have hE0 : Ext X3 W := Ext.trans' (by exact (by repeat (first | exact Below.refl _ _ | refine Ext.al ?_ _ | refine Ext.dr ?_ | refine Ext.drN ?_ _ | refine Ext.gr ?_ _ | refine Ext.set ?_ (by simp) _ | (refine Ext.trans' ?_ (by assumption))))) hE
    exact run1_extract (.tmp 57) 1 rfl _ _ ((hA.dep 5 (by decide) 57 rfl).trans (hd 5 (by decide))) rfl rfl
  case s8 =>
    intro val ρ W hE hd hA
    have hE0 : Ext X3 W := Ext.trans' (by exact (by repeat (first | exact Below.refl _ _ | refine Ext.al ?_ _ | refine Ext.dr ?_ | refine Ext.drN ?_ _ | refine Ext.gr ?_ _ | refine Ext.set ?_ (by simp) _ | (refine Ext.trans' ?_ (by assumption))))) hE
    exact run1_assign (.tmp 63) rfl ((hA.dep 6 (by decide) 63 rfl).trans (hd 6 (by decide)))
  case s9 =>
    intro val ρ W hE hd hA
    have hE0 : Ext X3 W := Ext.trans' (by exact (by repeat (first | exact Below.refl _ _ | refine Ext.al ?_ _ | refine Ext.dr ?_ | refine Ext.drN ?_ _ | refine Ext.gr ?_ _ | refine Ext.set ?_ (by simp) _ | (refine Ext.trans' ?_ (by assumption))))) hE
    exact run1_assign (.tmp 64) rfl ((hA.dep 7 (by decide) 64 rfl).trans (hd 7 (by decide)))
  case send =>
    intro val W hE hv
    have hE0 : Ext X3 W := Ext.trans' (by exact (by repeat (first | exact Below.refl _ _ | refine Ext.al ?_ _ | refine Ext.dr ?_ | refine Ext.drN ?_ _ | refine Ext.gr ?_ _ | refine Ext.set ?_ (by simp) _ | (refine Ext.trans' ?_ (by assumption))))) hE
    obtain ⟨-, -, -, -, -, -, q6, q7, q8, q9, -⟩ := hv
    obtain ⟨g6, rfl⟩ := grow_of hE0
    have q6 : val 6 = .int .i64 100 := q6
    have q7 : val 7 = .int .i64 0 := q7
    have q8 : val 8 = .int .i64 100 := q8
    have q9 : val 9 = .int .i64 0 := q9
    clear hE hE0
    simp only [putD, q6, q7, q8, q9]
    go_frame
    clear q6 q7 q8 q9
    go_upto_region 7 with (fail)
    refine wp_region_wander1 [spV (.agg #[.int .i64 H.n, .int .i64 H.most, .slice ha H.cs.length hcap]), spV (.agg #[.bool true, .int .i64 1, .bool true]), spStps 1 [⟨true, 1, true⟩], spStps 1 [⟨true, 1, true⟩], spV (.tuple #[.int .i64 0, .int .i64 0]), spV (.tuple #[.int .i64 0, .int .i64 0]), spV (.int .i64 0), spV (.int .i64 0), spV (.int .i64 0), spV (.int .i64 0)] (by kernel_rfl) (by kernel_rfl) (by kernel_rfl) ⟨?s0, ?s1, ?s2, ?s3, ?s4, ?s5, ?s6, ?s7, ?s8, ?s9, trivial⟩ [some 66, some 67, some 68, some 69, some 70, some 65, some 71, some 72, some 14, some 15] rfl rfl ?send
    case s0 =>
      intro val ρ W hE hd hA
      have hE0 : Ext X3 W := Ext.trans' (by exact (by repeat (first | exact Below.refl _ _ | refine Ext.al ?_ _ | refine Ext.dr ?_ | refine Ext.drN ?_ _ | refine Ext.gr ?_ _ | refine Ext.set ?_ (by simp) _ | (refine Ext.trans' ?_ (by assumption))))) hE
      have e1 : ρ (.tmp 1) = .pointer (some ⟨W3.heap.size, 0, none⟩) := hA.old 1 (by decide)
      clear hd hA
      obtain ⟨g, rfl⟩ := grow_of hE0
      refine run1_val (W' := grow X3 g) (by simp [execOp, e1, go_sem, h0, h1, h2, z1]) (Below.refl _ _) rfl
    case s1 =>
      intro val ρ W hE hd hA
      have hE0 : Ext X3 W := Ext.trans' (by exact (by repeat (first | exact Below.refl _ _ | refine Ext.al ?_ _ | refine Ext.dr ?_ | refine Ext.drN ?_ _ | refine Ext.gr ?_ _ | refine Ext.set ?_ (by simp) _ | (refine Ext.trans' ?_ (by assumption))))) hE
      refine run1_call 60 _ _ rfl #[.int .i64 1] (hA.func _) (by simp [hA.const]) (fun args W => Try.call60 args W) ((stepV_any 1 W).mono ?_)
      rintro e w' ⟨rfl, hb⟩
      exact ⟨_, rfl, hb, rfl⟩
    case s2 =>
      intro val ρ W hE hd hA
      have hE0 : Ext X3 W := Ext.trans' (by exact (by repeat (first | exact Below.refl _ _ | refine Ext.al ?_ _ | refine Ext.dr ?_ | refine Ext.drN ?_ _ | refine Ext.gr ?_ _ | refine Ext.set ?_ (by simp) _ | (refine Ext.trans' ?_ (by assumption))))) hE
      have d1 : ρ (.tmp 67) = .agg #[.bool true, .int .i64 1, .bool true] := (hA.dep 1 (by decide) 67 rfl).trans (hd 1 (by decide))
      clear hd hA
      refine run1_val (by simp [execOp, d1, go_sem]; exact ⟨rfl, rfl⟩) (by exact (by repeat (first | exact Below.refl _ _ | refine Ext.al ?_ _ | refine Ext.dr ?_ | refine Ext.drN ?_ _ | refine Ext.gr ?_ _ | refine Ext.set ?_ (by simp) _ | (refine Ext.trans' ?_ (by assumption))))) ⟨⟨_, rfl⟩, ⟨_, 1, rfl, by simp, by omega, .inr ⟨_, 0, rfl, newRows _ ([⟨true, 1, true⟩].map Stp.cells) _ _ _ 3 rfl (by simp [Stp.cells]) (by simp [Stp.cells])⟩⟩⟩
    case s3 =>
      intro val ρ W hE hd hA
      have hE0 : Ext X3 W := Ext.trans' (by exact (by repeat (first | exact Below.refl _ _ | refine Ext.al ?_ _ | refine Ext.dr ?_ | refine Ext.drN ?_ _ | refine Ext.gr ?_ _ | refine Ext.set ?_ (by simp) _ | (refine Ext.trans' ?_ (by assumption))))) hE
      have d1 : ρ (.tmp 68) = _ := hA.dep 2 (by decide) 68 rfl
      have d2 : (∃ b, val 2 = .slice (some ⟨b, 0, none⟩) 1 1) ∧ IsStps W (val 2) [⟨true, 1, true⟩] := hd 2 (by decide)
      refine run1_call 58 _ _ rfl #[val 2] (hA.func _) (by simp [d1]) (fun args W => Try.call58 args W) ((wayL_any (val 2) W).mono ?_)
      rintro e w' ⟨rfl, hb⟩
      exact ⟨_, rfl, hb, d2.1, d2.2.ext hb⟩
    case s4 =>
      intro val ρ W hE hd hA
      have hE0 : Ext X3 W := Ext.trans' (by exact (by repeat (first | exact Below.refl _ _ | refine Ext.al ?_ _ | refine Ext.dr ?_ | refine Ext.drN ?_ _ | refine Ext.gr ?_ _ | refine Ext.set ?_ (by simp) _ | (refine Ext.trans' ?_ (by assumption))))) hE
      have d0 : ρ (.tmp 66) = .agg #[.int .i64 H.n, .int .i64 H.most, .slice ha H.cs.length hcap] := (hA.dep 0 (by decide) 66 rfl).trans (hd 0 (by decide))
      have d1 : ρ (.tmp 69) = _ := hA.dep 3 (by decide) 69 rfl
      have d2 : (∃ b, val 3 = .slice (some ⟨b, 0, none⟩) 1 1) ∧ IsStps W (val 3) [⟨true, 1, true⟩] := hd 3 (by decide)
      refine run1_call 28 _ _ rfl #[.agg #[.int .i64 H.n, .int .i64 H.most, .slice ha H.cs.length hcap], .int .i64 2, .int .i64 1, val 3] (hA.func _) (by simp [d0, d1, hA.const]) (fun args W => Try.call28 args W) ((checkWay_any H _ (val 3) 2 1 _ W (HH.out.ext hE0) d2.2).mono ?_)
      rintro e w' ⟨rfl, hb⟩
      rw [V6.out]
      exact ⟨_, rfl, hb, rfl⟩
    case s5 =>
      intro val ρ W hE hd hA
      have hE0 : Ext X3 W := Ext.trans' (by exact (by repeat (first | exact Below.refl _ _ | refine Ext.al ?_ _ | refine Ext.dr ?_ | refine Ext.drN ?_ _ | refine Ext.gr ?_ _ | refine Ext.set ?_ (by simp) _ | (refine Ext.trans' ?_ (by assumption))))) hE
      exact run1_move (.tmp 70) rfl ((hA.dep 4 (by decide) 70 rfl).trans (hd 4 (by decide)))
    case s6 =>
      intro val ρ W hE hd hA
      have hE0 : Ext X3 W := Ext.trans' (by exact (by repeat (first | exact Below.refl _ _ | refine Ext.al ?_ _ | refine Ext.dr ?_ | refine Ext.drN ?_ _ | refine Ext.gr ?_ _ | refine Ext.set ?_ (by simp) _ | (refine Ext.trans' ?_ (by assumption))))) hE
      exact run1_extract (.tmp 65) 0 rfl _ _ ((hA.dep 5 (by decide) 65 rfl).trans (hd 5 (by decide))) rfl rfl
    case s7 =>
      intro val ρ W hE hd hA
      have hE0 : Ext X3 W := Ext.trans' (by exact (by repeat (first | exact Below.refl _ _ | refine Ext.al ?_ _ | refine Ext.dr ?_ | refine Ext.drN ?_ _ | refine Ext.gr ?_ _ | refine Ext.set ?_ (by simp) _ | (refine Ext.trans' ?_ (by assumption))))) hE
      exact run1_extract (.tmp 65) 1 rfl _ _ ((hA.dep 5 (by decide) 65 rfl).trans (hd 5 (by decide))) rfl rfl
    case s8 =>
      intro val ρ W hE hd hA
      have hE0 : Ext X3 W := Ext.trans' (by exact (by repeat (first | exact Below.refl _ _ | refine Ext.al ?_ _ | refine Ext.dr ?_ | refine Ext.drN ?_ _ | refine Ext.gr ?_ _ | refine Ext.set ?_ (by simp) _ | (refine Ext.trans' ?_ (by assumption))))) hE
      exact run1_assign (.tmp 71) rfl ((hA.dep 6 (by decide) 71 rfl).trans (hd 6 (by decide)))
    case s9 =>
      intro val ρ W hE hd hA
      have hE0 : Ext X3 W := Ext.trans' (by exact (by repeat (first | exact Below.refl _ _ | refine Ext.al ?_ _ | refine Ext.dr ?_ | refine Ext.drN ?_ _ | refine Ext.gr ?_ _ | refine Ext.set ?_ (by simp) _ | (refine Ext.trans' ?_ (by assumption))))) hE
      exact run1_assign (.tmp 72) rfl ((hA.dep 7 (by decide) 72 rfl).trans (hd 7 (by decide)))
    case send =>
      intro val W hE hv
      have hE0 : Ext X3 W := Ext.trans' (by exact (by repeat (first | exact Below.refl _ _ | refine Ext.al ?_ _ | refine Ext.dr ?_ | refine Ext.drN ?_ _ | refine Ext.gr ?_ _ | refine Ext.set ?_ (by simp) _ | (refine Ext.trans' ?_ (by assumption))))) hE
      obtain ⟨-, -, -, -, -, -, q6, q7, q8, q9, -⟩ := hv
      obtain ⟨g7, rfl⟩ := grow_of hE0
      have q6 : val 6 = .int .i64 0 := q6
      have q7 : val 7 = .int .i64 0 := q7
      have q8 : val 8 = .int .i64 0 := q8
      have q9 : val 9 = .int .i64 0 := q9
      clear hE hE0
      simp only [putD, q6, q7, q8, q9]
      go_frame
      clear q6 q7 q8 q9

      go_wp2_with fail
      refine callWR (W0 := X3) (g := g7) (by exact (by repeat (first | exact Below.refl _ _ | refine Ext.al ?_ _ | refine Ext.dr ?_ | refine Ext.drN ?_ _ | refine Ext.gr ?_ _ | refine Ext.set ?_ (by simp) _ | (refine Ext.trans' ?_ (by assumption))))) (way_fin H _ 1 2 _ (HH.out.ext (by exact (by repeat (first | exact Below.refl _ _ | refine Ext.al ?_ _ | refine Ext.dr ?_ | refine Ext.drN ?_ _ | refine Ext.gr ?_ _ | refine Ext.set ?_ (by simp) _ | (refine Ext.trans' ?_ (by assumption))))))) (fun _ _ r => r.ext) fun _ g5 hgr hr => ?_
      obtain ⟨lv, ls, rfl, -, hL, hWO⟩ := hr
      clear hgr
      rw [V7.out]
      obtain ⟨la, lcap, rfl, -⟩ := hL.spec
      have hwe : wayE H 1 2 ls = (9, 0) := by
        obtain ⟨q1, q2, q3⟩ := hWO.1 V7.out
        have ho : openE H [1, 2] = 0 := by
          have := V7.out
          unfold wayErr at this
          by_cases hh : openE H [1, 2] = 0
          · exact hh
          · rw [if_pos hh] at this; exact this
        rw [wayE_of ho (by omega) q1, q2]
        exact congrArg (fun z => (z, (0 : Int))) V7b.out
      have HL := Lib.hid hL
      have HWE := Lib.hid hwe
      clear hL hWO hwe
      go_upto_region 9 with (fail)
      refine wp_region_wander1 [spV (.agg #[.int .i64 K.n, .int .i64 K.most, .slice ka K.cs.length kcap]), spV (.agg #[.bool false, .int .i64 0, .bool false]), spV (.agg #[.bool false, .int .i64 1, .bool true]), spStps 2 [⟨false, 0, false⟩, ⟨false, 1, true⟩], spStps 2 [⟨false, 0, false⟩, ⟨false, 1, true⟩], spRngs 1 [[⟨false, 0, false⟩, ⟨false, 1, true⟩]], spV (.tuple #[.int .i64 1, .int .i64 0]), spV (.tuple #[.int .i64 1, .int .i64 0]), spV (.int .i64 1), spV (.int .i64 0), spV (.int .i64 1), spV (.int .i64 0)] (by kernel_rfl) (by kernel_rfl) (by kernel_rfl) ⟨?s0, ?s1, ?s2, ?s3, ?s4, ?s5, ?s6, ?s7, ?s8, ?s9, ?s10, ?s11, trivial⟩ [some 79, some 80, some 81, some 82, some 83, some 84, some 85, some 78, some 86, some 87, some 18, some 19] rfl rfl ?send
      case s0 =>
        intro val ρ W hE hd hA
        have hE0 : Ext X3 W := Ext.trans' (by exact (by repeat (first | exact Below.refl _ _ | refine Ext.al ?_ _ | refine Ext.dr ?_ | refine Ext.drN ?_ _ | refine Ext.gr ?_ _ | refine Ext.set ?_ (by simp) _ | (refine Ext.trans' ?_ (by assumption))))) hE
        have e1 : ρ (.tmp 3) = .pointer (some ⟨W3.heap.size + 1 + 1, 0, none⟩) := hA.old 3 (by decide)
        clear hd hA
        obtain ⟨g, rfl⟩ := grow_of hE0
        refine run1_val (W' := grow X3 g) (by simp [execOp, e1, go_sem, k0, k1, k2, z3]) (Below.refl _ _) rfl
      case s1 =>
        intro val ρ W hE hd hA
        have hE0 : Ext X3 W := Ext.trans' (by exact (by repeat (first | exact Below.refl _ _ | refine Ext.al ?_ _ | refine Ext.dr ?_ | refine Ext.drN ?_ _ | refine Ext.gr ?_ _ | refine Ext.set ?_ (by simp) _ | (refine Ext.trans' ?_ (by assumption))))) hE
        refine run1_call 61 _ _ rfl #[.int .i64 0] (hA.func _) (by simp [hA.const]) (fun args W => Try.call61 args W) ((stepC_any 0 W).mono ?_)
        rintro e w' ⟨rfl, hb⟩
        exact ⟨_, rfl, hb, rfl⟩
      case s2 =>
        intro val ρ W hE hd hA
        have hE0 : Ext X3 W := Ext.trans' (by exact (by repeat (first | exact Below.refl _ _ | refine Ext.al ?_ _ | refine Ext.dr ?_ | refine Ext.drN ?_ _ | refine Ext.gr ?_ _ | refine Ext.set ?_ (by simp) _ | (refine Ext.trans' ?_ (by assumption))))) hE
        refine run1_call 62 _ _ rfl #[.int .i64 1] (hA.func _) (by simp [hA.const]) (fun args W => Try.call62 args W) ((stepB_any 1 W).mono ?_)
        rintro e w' ⟨rfl, hb⟩
        exact ⟨_, rfl, hb, rfl⟩
      case s3 =>
        intro val ρ W hE hd hA
        have hE0 : Ext X3 W := Ext.trans' (by exact (by repeat (first | exact Below.refl _ _ | refine Ext.al ?_ _ | refine Ext.dr ?_ | refine Ext.drN ?_ _ | refine Ext.gr ?_ _ | refine Ext.set ?_ (by simp) _ | (refine Ext.trans' ?_ (by assumption))))) hE
        have d1 : ρ (.tmp 80) = .agg #[.bool false, .int .i64 0, .bool false] := (hA.dep 1 (by decide) 80 rfl).trans (hd 1 (by decide))
        have d2 : ρ (.tmp 81) = .agg #[.bool false, .int .i64 1, .bool true] := (hA.dep 2 (by decide) 81 rfl).trans (hd 2 (by decide))
        clear hd hA
        refine run1_val (by simp [execOp, d1, d2, go_sem]; exact ⟨rfl, rfl⟩) (by exact (by repeat (first | exact Below.refl _ _ | refine Ext.al ?_ _ | refine Ext.dr ?_ | refine Ext.drN ?_ _ | refine Ext.gr ?_ _ | refine Ext.set ?_ (by simp) _ | (refine Ext.trans' ?_ (by assumption))))) ⟨⟨_, rfl⟩, ⟨_, 2, rfl, by simp, by omega, .inr ⟨_, 0, rfl, newRows _ ([⟨false, 0, false⟩, ⟨false, 1, true⟩].map Stp.cells) _ _ _ 3 rfl (by simp [Stp.cells]) (by simp [Stp.cells])⟩⟩⟩
      case s4 =>
        intro val ρ W hE hd hA
        have hE0 : Ext X3 W := Ext.trans' (by exact (by repeat (first | exact Below.refl _ _ | refine Ext.al ?_ _ | refine Ext.dr ?_ | refine Ext.drN ?_ _ | refine Ext.gr ?_ _ | refine Ext.set ?_ (by simp) _ | (refine Ext.trans' ?_ (by assumption))))) hE
        have d1 : ρ (.tmp 82) = _ := hA.dep 3 (by decide) 82 rfl
        have d2 : (∃ b, val 3 = .slice (some ⟨b, 0, none⟩) 2 2) ∧ IsStps W (val 3) [⟨false, 0, false⟩, ⟨false, 1, true⟩] := hd 3 (by decide)
        refine run1_call 58 _ _ rfl #[val 3] (hA.func _) (by simp [d1]) (fun args W => Try.call58 args W) ((wayL_any (val 3) W).mono ?_)
        rintro e w' ⟨rfl, hb⟩
        exact ⟨_, rfl, hb, d2.1, d2.2.ext hb⟩
      case s5 =>
        intro val ρ W hE hd hA
        have hE0 : Ext X3 W := Ext.trans' (by exact (by repeat (first | exact Below.refl _ _ | refine Ext.al ?_ _ | refine Ext.dr ?_ | refine Ext.drN ?_ _ | refine Ext.gr ?_ _ | refine Ext.set ?_ (by simp) _ | (refine Ext.trans' ?_ (by assumption))))) hE
        obtain ⟨⟨b4, e4⟩, i4⟩ : (∃ b, val 4 = .slice (some ⟨b, 0, none⟩) 2 2) ∧ IsStps W (val 4) [⟨false, 0, false⟩, ⟨false, 1, true⟩] := hd 4 (by decide)
        have d4 : ρ (.tmp 83) = .slice (some ⟨b4, 0, none⟩) 2 2 := (hA.dep 4 (by decide) 83 rfl).trans e4
        rw [e4] at i4
        clear hd hA
        refine run1_val (by simp [execOp, d4, go_sem]; exact ⟨rfl, rfl⟩) (by exact (by repeat (first | exact Below.refl _ _ | refine Ext.al ?_ _ | refine Ext.dr ?_ | refine Ext.drN ?_ _ | refine Ext.gr ?_ _ | refine Ext.set ?_ (by simp) _ | (refine Ext.trans' ?_ (by assumption))))) ⟨[((.slice (some ⟨b4, 0, none⟩) 2 2), [⟨false, 0, false⟩, ⟨false, 1, true⟩])], ⟨_, rfl⟩, ⟨⟨_, 1, rfl, by simp, by omega, .inr ⟨_, 0, rfl, newRows _ [[(.slice (some ⟨b4, 0, none⟩) 2 2)]] _ _ _ 1 rfl (by simp) (by simp)⟩⟩, fun x hx => ?_⟩, rfl⟩
        simp only [List.mem_cons, List.not_mem_nil, or_false] at hx
        subst hx
        exact i4.ext (by exact (by repeat (first | exact Below.refl _ _ | refine Ext.al ?_ _ | refine Ext.dr ?_ | refine Ext.drN ?_ _ | refine Ext.gr ?_ _ | refine Ext.set ?_ (by simp) _ | (refine Ext.trans' ?_ (by assumption)))))
      case s6 =>
        intro val ρ W hE hd hA
        have hE0 : Ext X3 W := Ext.trans' (by exact (by repeat (first | exact Below.refl _ _ | refine Ext.al ?_ _ | refine Ext.dr ?_ | refine Ext.drN ?_ _ | refine Ext.gr ?_ _ | refine Ext.set ?_ (by simp) _ | (refine Ext.trans' ?_ (by assumption))))) hE
        have d0 : ρ (.tmp 79) = .agg #[.int .i64 K.n, .int .i64 K.most, .slice ka K.cs.length kcap] := (hA.dep 0 (by decide) 79 rfl).trans (hd 0 (by decide))
        have d1 : ρ (.tmp 84) = _ := hA.dep 5 (by decide) 84 rfl
        obtain ⟨ps, d2, d3, d4⟩ : ∃ ps, (∃ b, val 5 = .slice (some ⟨b, 0, none⟩) 1 1) ∧ IsRngs W (val 5) ps ∧ ps.map (·.2) = [[⟨false, 0, false⟩, ⟨false, 1, true⟩]] := hd 5 (by decide)
        refine run1_call 34 _ _ rfl #[.agg #[.int .i64 K.n, .int .i64 K.most, .slice ka K.cs.length kcap], val 5] (hA.func _) (by simp [d0, d1]) (fun args W => Try.call34 args W) ((checkRings_any K _ (val 5) ps W (HK.out.ext hE0) d3).mono ?_)
        rintro e w' ⟨rfl, hb⟩
        rw [d4, ringsN, V8.out]
        exact ⟨_, rfl, hb, rfl⟩
      case s7 =>
        intro val ρ W hE hd hA
        have hE0 : Ext X3 W := Ext.trans' (by exact (by repeat (first | exact Below.refl _ _ | refine Ext.al ?_ _ | refine Ext.dr ?_ | refine Ext.drN ?_ _ | refine Ext.gr ?_ _ | refine Ext.set ?_ (by simp) _ | (refine Ext.trans' ?_ (by assumption))))) hE
        exact run1_move (.tmp 85) rfl ((hA.dep 6 (by decide) 85 rfl).trans (hd 6 (by decide)))
      case s8 =>
        intro val ρ W hE hd hA
        have hE0 : Ext X3 W := Ext.trans' (by exact (by repeat (first | exact Below.refl _ _ | refine Ext.al ?_ _ | refine Ext.dr ?_ | refine Ext.drN ?_ _ | refine Ext.gr ?_ _ | refine Ext.set ?_ (by simp) _ | (refine Ext.trans' ?_ (by assumption))))) hE
        exact run1_extract (.tmp 78) 0 rfl _ _ ((hA.dep 7 (by decide) 78 rfl).trans (hd 7 (by decide))) rfl rfl
      case s9 =>
        intro val ρ W hE hd hA
        have hE0 : Ext X3 W := Ext.trans' (by exact (by repeat (first | exact Below.refl _ _ | refine Ext.al ?_ _ | refine Ext.dr ?_ | refine Ext.drN ?_ _ | refine Ext.gr ?_ _ | refine Ext.set ?_ (by simp) _ | (refine Ext.trans' ?_ (by assumption))))) hE
        exact run1_extract (.tmp 78) 1 rfl _ _ ((hA.dep 7 (by decide) 78 rfl).trans (hd 7 (by decide))) rfl rfl
      case s10 =>
        intro val ρ W hE hd hA
        have hE0 : Ext X3 W := Ext.trans' (by exact (by repeat (first | exact Below.refl _ _ | refine Ext.al ?_ _ | refine Ext.dr ?_ | refine Ext.drN ?_ _ | refine Ext.gr ?_ _ | refine Ext.set ?_ (by simp) _ | (refine Ext.trans' ?_ (by assumption))))) hE
        exact run1_assign (.tmp 86) rfl ((hA.dep 8 (by decide) 86 rfl).trans (hd 8 (by decide)))
      case s11 =>
        intro val ρ W hE hd hA
        have hE0 : Ext X3 W := Ext.trans' (by exact (by repeat (first | exact Below.refl _ _ | refine Ext.al ?_ _ | refine Ext.dr ?_ | refine Ext.drN ?_ _ | refine Ext.gr ?_ _ | refine Ext.set ?_ (by simp) _ | (refine Ext.trans' ?_ (by assumption))))) hE
        exact run1_assign (.tmp 87) rfl ((hA.dep 9 (by decide) 87 rfl).trans (hd 9 (by decide)))
      case send =>
        intro val W hE hv
        have hE0 : Ext X3 W := Ext.trans' (by exact (by repeat (first | exact Below.refl _ _ | refine Ext.al ?_ _ | refine Ext.dr ?_ | refine Ext.drN ?_ _ | refine Ext.gr ?_ _ | refine Ext.set ?_ (by simp) _ | (refine Ext.trans' ?_ (by assumption))))) hE
        obtain ⟨-, -, -, -, -, -, -, -, q8, q9, q10, q11, -⟩ := hv
        replace HL := Lib.hid (HL.out.ext hE)
        obtain ⟨g9, rfl⟩ := grow_of hE0
        have q8 : val 8 = .int .i64 1 := q8
        have q9 : val 9 = .int .i64 0 := q9
        have q10 : val 10 = .int .i64 1 := q10
        have q11 : val 11 = .int .i64 0 := q11
        clear hE hE0
        simp only [putD, q8, q9, q10, q11]
        go_frame
        clear q8 q9 q10 q11
        go_upto_region 10 with (fail)
        refine wp_region_wander1 [spV (.agg #[.int .i64 K.n, .int .i64 K.most, .slice ka K.cs.length kcap]), spV (.agg #[.bool false, .int .i64 0, .bool true]), spV (.agg #[.bool false, .int .i64 1, .bool false]), spStps 2 [⟨false, 0, true⟩, ⟨false, 1, false⟩], spStps 2 [⟨false, 0, true⟩, ⟨false, 1, false⟩], spRngs 1 [[⟨false, 0, true⟩, ⟨false, 1, false⟩]], spV (.tuple #[.int .i64 0, .int .i64 16]), spV (.tuple #[.int .i64 0, .int .i64 16]), spV (.int .i64 0), spV (.int .i64 16), spV (.int .i64 0), spV (.int .i64 16)] (by kernel_rfl) (by kernel_rfl) (by kernel_rfl) ⟨?s0, ?s1, ?s2, ?s3, ?s4, ?s5, ?s6, ?s7, ?s8, ?s9, ?s10, ?s11, trivial⟩ [some 89, some 90, some 91, some 92, some 93, some 94, some 95, some 88, some 96, some 97, some 20, some 21] rfl rfl ?send
        case s0 =>
          intro val ρ W hE hd hA
          have hE0 : Ext X3 W := Ext.trans' (by exact (by repeat (first | exact Below.refl _ _ | refine Ext.al ?_ _ | refine Ext.dr ?_ | refine Ext.drN ?_ _ | refine Ext.gr ?_ _ | refine Ext.set ?_ (by simp) _ | (refine Ext.trans' ?_ (by assumption))))) hE
          have e1 : ρ (.tmp 3) = .pointer (some ⟨W3.heap.size + 1 + 1, 0, none⟩) := hA.old 3 (by decide)
          clear hd hA
          obtain ⟨g, rfl⟩ := grow_of hE0
          refine run1_val (W' := grow X3 g) (by simp [execOp, e1, go_sem, k0, k1, k2, z3]) (Below.refl _ _) rfl
        case s1 =>
          intro val ρ W hE hd hA
          have hE0 : Ext X3 W := Ext.trans' (by exact (by repeat (first | exact Below.refl _ _ | refine Ext.al ?_ _ | refine Ext.dr ?_ | refine Ext.drN ?_ _ | refine Ext.gr ?_ _ | refine Ext.set ?_ (by simp) _ | (refine Ext.trans' ?_ (by assumption))))) hE
          refine run1_call 62 _ _ rfl #[.int .i64 0] (hA.func _) (by simp [hA.const]) (fun args W => Try.call62 args W) ((stepB_any 0 W).mono ?_)
          rintro e w' ⟨rfl, hb⟩
          exact ⟨_, rfl, hb, rfl⟩
        case s2 =>
          intro val ρ W hE hd hA
          have hE0 : Ext X3 W := Ext.trans' (by exact (by repeat (first | exact Below.refl _ _ | refine Ext.al ?_ _ | refine Ext.dr ?_ | refine Ext.drN ?_ _ | refine Ext.gr ?_ _ | refine Ext.set ?_ (by simp) _ | (refine Ext.trans' ?_ (by assumption))))) hE
          refine run1_call 61 _ _ rfl #[.int .i64 1] (hA.func _) (by simp [hA.const]) (fun args W => Try.call61 args W) ((stepC_any 1 W).mono ?_)
          rintro e w' ⟨rfl, hb⟩
          exact ⟨_, rfl, hb, rfl⟩
        case s3 =>
          intro val ρ W hE hd hA
          have hE0 : Ext X3 W := Ext.trans' (by exact (by repeat (first | exact Below.refl _ _ | refine Ext.al ?_ _ | refine Ext.dr ?_ | refine Ext.drN ?_ _ | refine Ext.gr ?_ _ | refine Ext.set ?_ (by simp) _ | (refine Ext.trans' ?_ (by assumption))))) hE
          have d1 : ρ (.tmp 90) = .agg #[.bool false, .int .i64 0, .bool true] := (hA.dep 1 (by decide) 90 rfl).trans (hd 1 (by decide))
          have d2 : ρ (.tmp 91) = .agg #[.bool false, .int .i64 1, .bool false] := (hA.dep 2 (by decide) 91 rfl).trans (hd 2 (by decide))
          clear hd hA
          refine run1_val (by simp [execOp, d1, d2, go_sem]; exact ⟨rfl, rfl⟩) (by exact (by repeat (first | exact Below.refl _ _ | refine Ext.al ?_ _ | refine Ext.dr ?_ | refine Ext.drN ?_ _ | refine Ext.gr ?_ _ | refine Ext.set ?_ (by simp) _ | (refine Ext.trans' ?_ (by assumption))))) ⟨⟨_, rfl⟩, ⟨_, 2, rfl, by simp, by omega, .inr ⟨_, 0, rfl, newRows _ ([⟨false, 0, true⟩, ⟨false, 1, false⟩].map Stp.cells) _ _ _ 3 rfl (by simp [Stp.cells]) (by simp [Stp.cells])⟩⟩⟩
        case s4 =>
          intro val ρ W hE hd hA
          have hE0 : Ext X3 W := Ext.trans' (by exact (by repeat (first | exact Below.refl _ _ | refine Ext.al ?_ _ | refine Ext.dr ?_ | refine Ext.drN ?_ _ | refine Ext.gr ?_ _ | refine Ext.set ?_ (by simp) _ | (refine Ext.trans' ?_ (by assumption))))) hE
          have d1 : ρ (.tmp 92) = _ := hA.dep 3 (by decide) 92 rfl
          have d2 : (∃ b, val 3 = .slice (some ⟨b, 0, none⟩) 2 2) ∧ IsStps W (val 3) [⟨false, 0, true⟩, ⟨false, 1, false⟩] := hd 3 (by decide)
          refine run1_call 58 _ _ rfl #[val 3] (hA.func _) (by simp [d1]) (fun args W => Try.call58 args W) ((wayL_any (val 3) W).mono ?_)
          rintro e w' ⟨rfl, hb⟩
          exact ⟨_, rfl, hb, d2.1, d2.2.ext hb⟩
        case s5 =>
          intro val ρ W hE hd hA
          have hE0 : Ext X3 W := Ext.trans' (by exact (by repeat (first | exact Below.refl _ _ | refine Ext.al ?_ _ | refine Ext.dr ?_ | refine Ext.drN ?_ _ | refine Ext.gr ?_ _ | refine Ext.set ?_ (by simp) _ | (refine Ext.trans' ?_ (by assumption))))) hE
          obtain ⟨⟨b4, e4⟩, i4⟩ : (∃ b, val 4 = .slice (some ⟨b, 0, none⟩) 2 2) ∧ IsStps W (val 4) [⟨false, 0, true⟩, ⟨false, 1, false⟩] := hd 4 (by decide)
          have d4 : ρ (.tmp 93) = .slice (some ⟨b4, 0, none⟩) 2 2 := (hA.dep 4 (by decide) 93 rfl).trans e4
          rw [e4] at i4
          clear hd hA
          refine run1_val (by simp [execOp, d4, go_sem]; exact ⟨rfl, rfl⟩) (by exact (by repeat (first | exact Below.refl _ _ | refine Ext.al ?_ _ | refine Ext.dr ?_ | refine Ext.drN ?_ _ | refine Ext.gr ?_ _ | refine Ext.set ?_ (by simp) _ | (refine Ext.trans' ?_ (by assumption))))) ⟨[((.slice (some ⟨b4, 0, none⟩) 2 2), [⟨false, 0, true⟩, ⟨false, 1, false⟩])], ⟨_, rfl⟩, ⟨⟨_, 1, rfl, by simp, by omega, .inr ⟨_, 0, rfl, newRows _ [[(.slice (some ⟨b4, 0, none⟩) 2 2)]] _ _ _ 1 rfl (by simp) (by simp)⟩⟩, fun x hx => ?_⟩, rfl⟩
          simp only [List.mem_cons, List.not_mem_nil, or_false] at hx
          subst hx
          exact i4.ext (by exact (by repeat (first | exact Below.refl _ _ | refine Ext.al ?_ _ | refine Ext.dr ?_ | refine Ext.drN ?_ _ | refine Ext.gr ?_ _ | refine Ext.set ?_ (by simp) _ | (refine Ext.trans' ?_ (by assumption)))))
        case s6 =>
          intro val ρ W hE hd hA
          have hE0 : Ext X3 W := Ext.trans' (by exact (by repeat (first | exact Below.refl _ _ | refine Ext.al ?_ _ | refine Ext.dr ?_ | refine Ext.drN ?_ _ | refine Ext.gr ?_ _ | refine Ext.set ?_ (by simp) _ | (refine Ext.trans' ?_ (by assumption))))) hE
          have d0 : ρ (.tmp 89) = .agg #[.int .i64 K.n, .int .i64 K.most, .slice ka K.cs.length kcap] := (hA.dep 0 (by decide) 89 rfl).trans (hd 0 (by decide))
          have d1 : ρ (.tmp 94) = _ := hA.dep 5 (by decide) 94 rfl
          obtain ⟨ps, d2, d3, d4⟩ : ∃ ps, (∃ b, val 5 = .slice (some ⟨b, 0, none⟩) 1 1) ∧ IsRngs W (val 5) ps ∧ ps.map (·.2) = [[⟨false, 0, true⟩, ⟨false, 1, false⟩]] := hd 5 (by decide)
          refine run1_call 34 _ _ rfl #[.agg #[.int .i64 K.n, .int .i64 K.most, .slice ka K.cs.length kcap], val 5] (hA.func _) (by simp [d0, d1]) (fun args W => Try.call34 args W) ((checkRings_any K _ (val 5) ps W (HK.out.ext hE0) d3).mono ?_)
          rintro e w' ⟨rfl, hb⟩
          rw [d4, ringsN, V9.out]
          exact ⟨_, rfl, hb, rfl⟩
        case s7 =>
          intro val ρ W hE hd hA
          have hE0 : Ext X3 W := Ext.trans' (by exact (by repeat (first | exact Below.refl _ _ | refine Ext.al ?_ _ | refine Ext.dr ?_ | refine Ext.drN ?_ _ | refine Ext.gr ?_ _ | refine Ext.set ?_ (by simp) _ | (refine Ext.trans' ?_ (by assumption))))) hE
          exact run1_move (.tmp 95) rfl ((hA.dep 6 (by decide) 95 rfl).trans (hd 6 (by decide)))
        case s8 =>
          intro val ρ W hE hd hA
          have hE0 : Ext X3 W := Ext.trans' (by exact (by repeat (first | exact Below.refl _ _ | refine Ext.al ?_ _ | refine Ext.dr ?_ | refine Ext.drN ?_ _ | refine Ext.gr ?_ _ | refine Ext.set ?_ (by simp) _ | (refine Ext.trans' ?_ (by assumption))))) hE
          exact run1_extract (.tmp 88) 0 rfl _ _ ((hA.dep 7 (by decide) 88 rfl).trans (hd 7 (by decide))) rfl rfl
        case s9 =>
          intro val ρ W hE hd hA
          have hE0 : Ext X3 W := Ext.trans' (by exact (by repeat (first | exact Below.refl _ _ | refine Ext.al ?_ _ | refine Ext.dr ?_ | refine Ext.drN ?_ _ | refine Ext.gr ?_ _ | refine Ext.set ?_ (by simp) _ | (refine Ext.trans' ?_ (by assumption))))) hE
          exact run1_extract (.tmp 88) 1 rfl _ _ ((hA.dep 7 (by decide) 88 rfl).trans (hd 7 (by decide))) rfl rfl
        case s10 =>
          intro val ρ W hE hd hA
          have hE0 : Ext X3 W := Ext.trans' (by exact (by repeat (first | exact Below.refl _ _ | refine Ext.al ?_ _ | refine Ext.dr ?_ | refine Ext.drN ?_ _ | refine Ext.gr ?_ _ | refine Ext.set ?_ (by simp) _ | (refine Ext.trans' ?_ (by assumption))))) hE
          exact run1_assign (.tmp 96) rfl ((hA.dep 8 (by decide) 96 rfl).trans (hd 8 (by decide)))
        case s11 =>
          intro val ρ W hE hd hA
          have hE0 : Ext X3 W := Ext.trans' (by exact (by repeat (first | exact Below.refl _ _ | refine Ext.al ?_ _ | refine Ext.dr ?_ | refine Ext.drN ?_ _ | refine Ext.gr ?_ _ | refine Ext.set ?_ (by simp) _ | (refine Ext.trans' ?_ (by assumption))))) hE
          exact run1_assign (.tmp 97) rfl ((hA.dep 9 (by decide) 97 rfl).trans (hd 9 (by decide)))
        case send =>
          intro val W hE hv
          have hE0 : Ext X3 W := Ext.trans' (by exact (by repeat (first | exact Below.refl _ _ | refine Ext.al ?_ _ | refine Ext.dr ?_ | refine Ext.drN ?_ _ | refine Ext.gr ?_ _ | refine Ext.set ?_ (by simp) _ | (refine Ext.trans' ?_ (by assumption))))) hE
          obtain ⟨-, -, -, -, -, -, -, -, q8, q9, q10, q11, -⟩ := hv
          replace HL := Lib.hid (HL.out.ext hE)
          obtain ⟨g10, rfl⟩ := grow_of hE0
          have q8 : val 8 = .int .i64 0 := q8
          have q9 : val 9 = .int .i64 16 := q9
          have q10 : val 10 = .int .i64 0 := q10
          have q11 : val 11 = .int .i64 16 := q11
          clear hE hE0
          simp only [putD, q8, q9, q10, q11]
          go_frame
          clear q8 q9 q10 q11


          go_wp2_with fail
          refine callWR (W0 := X3) (g := g10) (by exact (by repeat (first | exact Below.refl _ _ | refine Ext.al ?_ _ | refine Ext.dr ?_ | refine Ext.drN ?_ _ | refine Ext.gr ?_ _ | refine Ext.set ?_ (by simp) _ | (refine Ext.trans' ?_ (by assumption))))) (wrong_fin J _ _ (HJ.out.ext (by exact (by repeat (first | exact Below.refl _ _ | refine Ext.al ?_ _ | refine Ext.dr ?_ | refine Ext.drN ?_ _ | refine Ext.gr ?_ _ | refine Ext.set ?_ (by simp) _ | (refine Ext.trans' ?_ (by assumption))))))) (fun _ _ r => r.ext) fun _ g6 hgr hr => ?_
          obtain ⟨xv, rfl, -, hX⟩ := hr
          replace HL := Lib.hid (HL.out.ext hgr)
          clear hgr
          rw [V10.out]
          rw [V10b.out] at hX
          obtain ⟨xa, xcap, rfl, -⟩ := hX.spec
          have HX := Lib.hid hX
          clear hX

          go_wp2_with fail
          refine callWR (W0 := X3) (g := g6) (by exact (by repeat (first | exact Below.refl _ _ | refine Ext.al ?_ _ | refine Ext.dr ?_ | refine Ext.drN ?_ _ | refine Ext.gr ?_ _ | refine Ext.set ?_ (by simp) _ | (refine Ext.trans' ?_ (by assumption))))) (wrong_fin H _ _ (HH.out.ext (by exact (by repeat (first | exact Below.refl _ _ | refine Ext.al ?_ _ | refine Ext.dr ?_ | refine Ext.drN ?_ _ | refine Ext.gr ?_ _ | refine Ext.set ?_ (by simp) _ | (refine Ext.trans' ?_ (by assumption))))))) (fun _ _ r => r.ext) fun _ g7 hgr hr => ?_
          obtain ⟨ov, rfl, -, hO⟩ := hr
          replace HL := Lib.hid (HL.out.ext hgr)
          replace HX := Lib.hid (HX.out.ext hgr)
          clear hgr
          rw [V11.out]
          rw [V11b.out] at hO
          obtain ⟨oa, ocap, rfl, -⟩ := hO.spec
          clear hO
          go_wp2_with fail
          refine callW (W0 := X3) (g := g7) (by exact (by repeat (first | exact Below.refl _ _ | refine Ext.al ?_ _ | refine Ext.dr ?_ | refine Ext.drN ?_ _ | refine Ext.gr ?_ _ | refine Ext.set ?_ (by simp) _ | (refine Ext.trans' ?_ (by assumption))))) (lists_any K _ _ (HK.out.ext (by exact (by repeat (first | exact Below.refl _ _ | refine Ext.al ?_ _ | refine Ext.dr ?_ | refine Ext.drN ?_ _ | refine Ext.gr ?_ _ | refine Ext.set ?_ (by simp) _ | (refine Ext.trans' ?_ (by assumption))))))) fun g8 hgr => ?_
          replace HL := Lib.hid (HL.out.ext hgr)
          replace HX := Lib.hid (HX.out.ext hgr)
          clear hgr
          rw [V12.out, V12b.out]
          go_wp2_with fail
          refine callW (W0 := X3) (g := g8) (by exact (by repeat (first | exact Below.refl _ _ | refine Ext.al ?_ _ | refine Ext.dr ?_ | refine Ext.drN ?_ _ | refine Ext.gr ?_ _ | refine Ext.set ?_ (by simp) _ | (refine Ext.trans' ?_ (by assumption))))) (kind_fin K _ 0 _ (HK.out.ext (by exact (by repeat (first | exact Below.refl _ _ | refine Ext.al ?_ _ | refine Ext.dr ?_ | refine Ext.drN ?_ _ | refine Ext.gr ?_ _ | refine Ext.set ?_ (by simp) _ | (refine Ext.trans' ?_ (by assumption))))))) fun g9 hgr => ?_
          replace HL := Lib.hid (HL.out.ext hgr)
          replace HX := Lib.hid (HX.out.ext hgr)
          clear hgr
          rw [V13.out, V13b.out]
          go_wp2_with fail
          refine callW (W0 := X3) (g := g9) (by exact (by repeat (first | exact Below.refl _ _ | refine Ext.al ?_ _ | refine Ext.dr ?_ | refine Ext.drN ?_ _ | refine Ext.gr ?_ _ | refine Ext.set ?_ (by simp) _ | (refine Ext.trans' ?_ (by assumption))))) (kind_fin K _ 1 _ (HK.out.ext (by exact (by repeat (first | exact Below.refl _ _ | refine Ext.al ?_ _ | refine Ext.dr ?_ | refine Ext.drN ?_ _ | refine Ext.gr ?_ _ | refine Ext.set ?_ (by simp) _ | (refine Ext.trans' ?_ (by assumption))))))) fun g10 hgr => ?_
          replace HL := Lib.hid (HL.out.ext hgr)
          replace HX := Lib.hid (HX.out.ext hgr)
          clear hgr
          rw [V14.out, V14b.out]
          have heq1 : ∀ W, (binOp .eql 35 (.agg #[.int .i64 3, .int .i64 6]) (.agg #[.int .i64 3, .int .i64 6])).run Try.prog W = .ok (.bool true) W := fun _ => by kernel_rfl
          have heq2 : ∀ W, (binOp .eql 35 (.agg #[.int .i64 13, .int .i64 16]) (.agg #[.int .i64 13, .int .i64 16])).run Try.prog W = .ok (.bool true) W := fun _ => by kernel_rfl
          have heq3 : ∀ W, (binOp .eql 35 (.agg #[.int .i64 25, .int .i64 26]) (.agg #[.int .i64 25, .int .i64 26])).run Try.prog W = .ok (.bool true) W := fun _ => by kernel_rfl
          go_wp2_with fail
          refine callW (W0 := X3) (g := g10) (by exact (by repeat (first | exact Below.refl _ _ | refine Ext.al ?_ _ | refine Ext.dr ?_ | refine Ext.drN ?_ _ | refine Ext.gr ?_ _ | refine Ext.set ?_ (by simp) _ | (refine Ext.trans' ?_ (by assumption))))) (checkWayR_any H _ _ 1 2 ls _ (HH.out.ext (by exact (by repeat (first | exact Below.refl _ _ | refine Ext.al ?_ _ | refine Ext.dr ?_ | refine Ext.drN ?_ _ | refine Ext.gr ?_ _ | refine Ext.set ?_ (by simp) _ | (refine Ext.trans' ?_ (by assumption)))))) (HL.out.ext (by exact (by repeat (first | exact Below.refl _ _ | refine Ext.al ?_ _ | refine Ext.dr ?_ | refine Ext.drN ?_ _ | refine Ext.gr ?_ _ | refine Ext.set ?_ (by simp) _ | (refine Ext.trans' ?_ (by assumption))))))) fun g11 hgr => ?_
          replace HL := Lib.hid (HL.out.ext hgr)
          replace HX := Lib.hid (HX.out.ext hgr)
          clear hgr
          rw [HWE.out]
          go_wp2_with fail
          refine callW (W0 := X3) (g := g11) (by exact (by repeat (first | exact Below.refl _ _ | refine Ext.al ?_ _ | refine Ext.dr ?_ | refine Ext.drN ?_ _ | refine Ext.gr ?_ _ | refine Ext.set ?_ (by simp) _ | (refine Ext.trans' ?_ (by assumption))))) (ints_any [0] [0] _ _ _ (HX.out.ext (by exact (by repeat (first | exact Below.refl _ _ | refine Ext.al ?_ _ | refine Ext.dr ?_ | refine Ext.drN ?_ _ | refine Ext.gr ?_ _ | refine Ext.set ?_ (by simp) _ | (refine Ext.trans' ?_ (by assumption)))))) (isInts_one' (by omega) (by omega) (by simp [go_sem]))) fun g12 hgr => ?_
          replace HL := Lib.hid (HL.out.ext hgr)
          replace HX := Lib.hid (HX.out.ext hgr)
          clear hgr
          rw [show decide (([0] : List Int) = [0]) = true from rfl]
          go_wp2_with fail
          refine callW (W0 := X3) (g := g12) (by exact (by repeat (first | exact Below.refl _ _ | refine Ext.al ?_ _ | refine Ext.dr ?_ | refine Ext.drN ?_ _ | refine Ext.gr ?_ _ | refine Ext.set ?_ (by simp) _ | (refine Ext.trans' ?_ (by assumption))))) (works_any _) fun g13 hgr => ?_
          replace HL := Lib.hid (HL.out.ext hgr)
          replace HX := Lib.hid (HX.out.ext hgr)
          clear hgr
          go_wp2_with fail
          go_ret
          exact ⟨rfl, HW.out.trans' (grow_below X3 g13)⟩
open Go.ChangeShapes Go.WideShapes Go.ChangeAt in
set_option maxRecDepth 100000 in
theorem cutKnown_lifted (os : Os) (started : os.Started) (H : Type) (enc : TypeId × Value → H) :
    ReturnsInHanded {} Try.checked os 16 .any (Rows.cutKnownSpec.pre6 enc Try.prog Try.f16 Rows.cutKnownRow.domain false) (Rows.cutKnownSpec.post enc Try.prog Try.f16 false true false false) := by
  refine returnsInHanded_of_change (C := Try.checked) own started (by kernel_rfl) Try.func16
    (ChangeSpec.witness6 (enc := enc) (C := Try.checked) false ⟨#[], #[], []⟩ 8 (by kernel_rfl) (by kernel_rfl) (by kernel_rfl) (by kernel_rfl)) ?_
  intro W base args ds gs before hval0 hW hcnd _
  have hval : ∀ (j : Nat) t v, Try.f16.params[j]? = some t → args[j]? = some v → Value.okWide Try.prog W .any base t v := hval0
  have hW' := hW
  obtain ⟨p, q, hA0, hV, rfl, hfz, hnd⟩ := hW
  have hA : DataW.TrodAll enc Try.prog W 0 (fun _ => true) true Try.f16.params.toList args.toList ds p := hA0
  rw [Try.params16] at hA hval
  obtain ⟨rfl, rfl, rfl⟩ := trodAll_none hA
  clear hA0 hval0
  refine (cutKnown_any  W ).mono fun e W' ⟨he, hb⟩ => ?_
  subst he
  exact ⟨_, rfl, law_post laidOut (tb := 4) (hts_of (by kernel_rfl)) (by kernel_rfl) Try.underlying4 hW' rfl rfl hb⟩
theorem cutKnown_holds : Rows.CutKnownSaid :=
  OpenClaim.holds_of_wide 16 Try.f16 rfl rfl rfl rfl rfl rfl rfl ⟨rfl, rfl, rfl, rfl, rfl⟩ rfl rfl rfl rfl rfl (by kernel_rfl) Try.func16 (by kernel_rfl)
    (of_decide_eq_true (by kernel_rfl)) (by unfold Func.isWrapper; first | (rw [if_pos (by decide +kernel)]; kernel_rfl) | (rw [if_neg (by decide +kernel)]; exact ⟨rfl, rfl⟩))
    (fun os started H enc _ => cutKnown_lifted os started H enc)
end Go.Proofs.Ytgcldgchhdjnhaa
