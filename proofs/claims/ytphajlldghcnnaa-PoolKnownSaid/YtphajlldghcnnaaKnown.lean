/-
  The statement PoolKnown holds: the examples of the chapter. No condition.
-/
import Derived.Test.YtphajlldghcnnaaPm
import Derived.Test.YtphajlldghcnnaaPn
namespace Go.Proofs.Ytphajlldghcnnaa
open Go.RowKit Go.Shelf
def scrB0 : Bk := ⟨0, 3, [⟨0, -1, 5⟩, ⟨1, -1, 3⟩, ⟨2, -1, 2⟩], [0], false, 0, 100, 10⟩
def scrB1 : Bk := ⟨0, 3, [⟨0, -1, 5⟩, ⟨1, -1, 3⟩, ⟨2, -1, 2⟩], [1], false, 0, 100, 10⟩
theorem kv1 : divErr (bookB 0) [[1], [0], [2]] = 0 ∧ divL (bookB 0) [[1], [0], [2]] = [((1, -1), 300)] := by simp only [divErr, divL, divP, penceP, shareP, backed_ins]; decide +kernel
theorem kv3 : divErr scrB [[1], [0]] = 0 ∧ divL scrB [[1], [0]] = [((1, -1), 240)] := by simp only [divErr, divL, divP, penceP, shareP, backed_ins]; decide +kernel
theorem kv4 : payErr scrB [[1], [0]] 2 = 0 ∧ payP scrB [[1], [0]] (betAt scrB 2) = 200 := by simp only [payErr, payP, paidTo, divP, penceP, shareP, backed_ins]; decide +kernel
theorem kv5 : payErr (bookB 0) [[0, 1], [2]] 2 = 0 ∧ payP (bookB 0) [[0, 1], [2]] (betAt (bookB 0) 2) = 0 := by simp only [payErr, payP, paidTo, divP, penceP, shareP, backed_ins]; decide +kernel
theorem kv6 : divErr pairsB [[0, 1], [2]] = 0 ∧ divL pairsB [[0, 1], [2]] = [((0, 1), 130), ((1, 0), 90)] := by simp only [divErr, divL, divP, penceP, shareP, backed_ins]; decide +kernel
theorem kv7 : finErr pairsB [[2], [0], [1]] = 0 ∧ accA pairsB [[2], [0], [1]] = ⟨550, 0, 0, 0, 0, 550⟩ := by simp only [accA, paidP, divP, penceP, shareP, backed_ins]; decide +kernel
theorem kv8 : finErr pairsB [[0, 1], [2]] = 0 ∧ winL pairsB [[0, 1], [2]] = [(0, 1), (1, 0)] := by simp only [winL, wins_ins]; decide +kernel
theorem kv9 : scrErr (bookB 0) 0 = 0 ∧ scrErr (bookB 0) 1 = 0 ∧ scrErr scrB1 0 = 10 := by decide +kernel
theorem kv9a : scrP (bookB 0) 0 = scrB0 := by
  have h : (scrP (bookB 0) 0).scr = [0] := by decide +kernel
  unfold scrB0
  rw [← h]
  rfl
theorem kv9b : scrP (bookB 0) 1 = scrB1 := by
  have h : (scrP (bookB 0) 1).scr = [1] := by decide +kernel
  unfold scrB1
  rw [← h]
  rfl
theorem kv10 : favA scrB0 = 1 ∧ bkErr scrB0 = 0 := by decide +kernel
set_option maxRecDepth 200000 in
set_option maxHeartbeats 16000000 in
theorem poolKnown_any (w : World) : Calls Try.prog 16 #[] w fun e W => e = .returned (.bool true) ∧ Ext w W := by
  obtain ⟨B1, hB1⟩ : ∃ B1, B1 = bookB 0 := ⟨_, rfl⟩
  obtain ⟨B3, hB3⟩ : ∃ B3, B3 = pairsB := ⟨_, rfl⟩
  obtain ⟨B4, hB4⟩ : ∃ B4, B4 = scrB := ⟨_, rfl⟩
  obtain ⟨B5, hB5⟩ : ∃ B5, B5 = scrB0 := ⟨_, rfl⟩
  obtain ⟨B6, hB6⟩ : ∃ B6, B6 = scrB1 := ⟨_, rfl⟩
  have V1a : Hid (divErr B1 [[1], [0], [2]] = 0) := Lib.hid (by rw [hB1]; exact kv1.1)
  have V1b : Hid (divL B1 [[1], [0], [2]] = [((1, -1), 300)]) := Lib.hid (by rw [hB1]; exact kv1.2)
  have V3a : Hid (divErr B4 [[1], [0]] = 0) := Lib.hid (by rw [hB4]; exact kv3.1)
  have V3b : Hid (divL B4 [[1], [0]] = [((1, -1), 240)]) := Lib.hid (by rw [hB4]; exact kv3.2)
  have V4 : Hid (payE B4 [[1], [0]] 2 = .tuple #[.int .i64 200, .int .i64 0]) := Lib.hid (by rw [hB4]; unfold payE; rw [kv4.1, if_pos rfl, kv4.2])
  have V5 : Hid (payE B1 [[0, 1], [2]] 2 = .tuple #[.int .i64 0, .int .i64 0]) := Lib.hid (by rw [hB1]; unfold payE; rw [kv5.1, if_pos rfl, kv5.2])
  have V6a : Hid (divErr B3 [[0, 1], [2]] = 0) := Lib.hid (by rw [hB3]; exact kv6.1)
  have V6b : Hid (divL B3 [[0, 1], [2]] = [((0, 1), 130), ((1, 0), 90)]) := Lib.hid (by rw [hB3]; exact kv6.2)
  have V7 : Hid (accE B3 [[2], [0], [1]] = .tuple #[.agg #[.int .i64 550, .int .i64 0, .int .i64 0, .int .i64 0, .int .i64 0, .int .i64 550], .int .i64 0]) := Lib.hid (by rw [hB3, accE_ok kv7.1, kv7.2]; rfl)
  have V8a : Hid (finErr B3 [[0, 1], [2]] = 0) := Lib.hid (by rw [hB3]; exact kv8.1)
  have V8b : Hid (winL B3 [[0, 1], [2]] = [(0, 1), (1, 0)]) := Lib.hid (by rw [hB3]; exact kv8.2)
  have VS4 : Hid (scrErr B1 2 = 0 ∧ scrP B1 2 = B4) := Lib.hid (by rw [hB1, hB4]; exact ⟨wv4, wv4s⟩)
  have VS5 : Hid (scrErr B1 0 = 0 ∧ scrP B1 0 = B5) := Lib.hid (by rw [hB1, hB5]; exact ⟨kv9.1, kv9a⟩)
  have VS6 : Hid (scrErr B1 1 = 0 ∧ scrP B1 1 = B6) := Lib.hid (by rw [hB1, hB6]; exact ⟨kv9.2.1, kv9b⟩)
  have VS7 : Hid (scrErr B6 0 = 10) := Lib.hid (by rw [hB6]; exact kv9.2.2)
  have V10 : Hid (favA B5 = 1) := Lib.hid (by rw [hB5]; exact kv10.1)
  have V10b : Hid (bkErr B5 = 0) := Lib.hid (by rw [hB5]; exact kv10.2)
  have VB1 := Lib.hid hB1
  have VB3 := Lib.hid hB3
  clear hB1 hB3 hB4 hB5 hB6
  go_enter Try.func16, Try.ntmps16
  go_wp2_with fail
  refine (bookL_any 0 _).mono ?_
  rintro e U1 ⟨g1, rfl, hE1, hI1⟩
  go_wp2_with fail
  refine (pairsL_any _).mono ?_
  rintro e U3 ⟨g3, rfl, hE3, hI3⟩
  go_upto_region 2 with (fail)
  obtain ⟨Z0, hZ0⟩ : ∃ Z0, Z0 = (U3.alloc (.cells #[.int .i64 0, .int .i64 3, .slice (some ⟨g1, 0, none⟩) 3 3, .slice none 0 0, .bool false, .int .i64 0, .int .i64 100, .int .i64 10] 25)).alloc (.cells #[.int .i64 2, .int .i64 3, .slice (some ⟨g3, 0, none⟩) 2 2, .slice none 0 0, .bool false, .int .i64 50, .int .i64 0, .int .i64 10] 25) := ⟨_, rfl⟩
  rw [← hZ0]
  obtain ⟨q1, hq1⟩ : ∃ q1, q1 = U3.heap.size := ⟨_, rfl⟩
  have hb1 : BookAt Z0 (q1) B1 (some ⟨g1, 0, none⟩) 3 none 0 := by rw [hZ0, VB1.out, hq1]; exact ⟨by simp [go_sem, bookB, pairsB], by simp [go_sem, bookB, pairsB], by simp [go_sem, bookB, pairsB], by simp [go_sem, bookB, pairsB], by simp [go_sem, bookB, pairsB], by simp [go_sem, bookB, pairsB], by simp [go_sem, bookB, pairsB], by simp [go_sem, bookB, pairsB]⟩
  have hb2 : BookAt Z0 (q1 + 1) B3 (some ⟨g3, 0, none⟩) 2 none 0 := by rw [hZ0, VB3.out, hq1]; exact ⟨by simp [go_sem, bookB, pairsB], by simp [go_sem, bookB, pairsB], by simp [go_sem, bookB, pairsB], by simp [go_sem, bookB, pairsB], by simp [go_sem, bookB, pairsB], by simp [go_sem, bookB, pairsB], by simp [go_sem, bookB, pairsB], by simp [go_sem, bookB, pairsB]⟩
  have hE0 : Ext U3 Z0 := by rw [hZ0]; exact (by repeat (first | exact Below.refl _ _ | refine Ext.al ?_ _ | refine Ext.dr ?_ | refine Ext.drN ?_ _ | refine Ext.gr ?_ _ | refine Ext.set ?_ (by simp) _ | (refine Ext.trans' ?_ (by assumption))))
  have HB1 := Lib.hid hb1
  have HB2 := Lib.hid hb2
  have HI1 : Hid (IsBook Z0 B1 (some ⟨g1, 0, none⟩) 3 none 0) := Lib.hid (by rw [VB1.out]; exact (hI1.ext hE3).ext hE0)
  have HI2 : Hid (IsBook Z0 B3 (some ⟨g3, 0, none⟩) 2 none 0) := Lib.hid (by rw [VB3.out]; exact hI3.ext hE0)
  have HW := Lib.hid ((hE1.trans' hE3).trans' hE0 : Ext w Z0)
  rw [← hq1]
  clear hZ0 hq1 hb1 hb2 hE0 hI1 hI3 hE1 hE3
  have hbkF := HB1.out
  have k0 := hbkF.c0
  have k1 := hbkF.c1
  have k2 := hbkF.c2
  have k3 := hbkF.c3
  have k4 := hbkF.c4
  have k5 := hbkF.c5
  have k6 := hbkF.c6
  have k7 := hbkF.c7
  have hzk := hbkF.lt
  clear hbkF
  refine wp_region_rove (Z0.heap.size) (Nat.le_refl _)
    [sqV (.agg #[.int .i64 B1.kd, .int .i64 B1.n, .slice (some ⟨g1, 0, none⟩) B1.bets.length 3, .slice none B1.scr.length 0, .bool B1.fav, .int .i64 B1.car, .int .i64 B1.duty, .int .i64 B1.step]),
     sqW (fun v W => PL [1] v W) (fun _ _ _ h e => PL.ext e h),
     sqW (fun v W => PL [0] v W) (fun _ _ _ h e => PL.ext e h),
     sqW (fun v W => PL [2] v W) (fun _ _ _ h e => PL.ext e h),
     sqW (fun v W => PF [[1], [0], [2]] v W) (fun _ _ _ h e => PF.ext e h),
     sqW (fun v W => PF [[1], [0], [2]] v W) (fun _ _ _ h e => PF.ext e h),
     sqW (fun v W => PT 3 0 ([((1, -1), 300)].map divRow) v W) (fun _ _ _ h e => PT.ext e h),
     sqW (fun v W => PT 3 0 ([((1, -1), 300)].map divRow) v W) (fun _ _ _ h e => PT.ext e h),
     sqW (fun v W => IsRows W 3 v ([((1, -1), 300)].map divRow)) (fun _ _ _ h e => IsRows.ext e h),
     sqV (.int .i64 0),
     sqW (fun v W => IsRows W 3 v ([((1, -1), 300)].map divRow)) (fun _ _ _ h e => IsRows.ext e h),
     sqV (.int .i64 0)]
    [true, false, false, false, false, false, false, false, false, true, false, true] [false, false, false, false, false, false, false, false, false, false, false, false] [true, true, true, true, true, true, true, true, true, true, true, true] [true, true, true, true, true, true, true, true, true, true, true, true]
    (by kernel_rfl) (by kernel_rfl) (by decide +kernel) (by decide +kernel) (by decide +kernel) rfl ⟨rfl, rfl⟩ ⟨?s0, ?s1, ?s2, ?s3, ?s4, ?s5, ?s6, ?s7, ?s8, ?s9, ?s10, ?s11, trivial⟩ [some 30, some 31, some 32, some 33, some 34, some 35, some 36, some 29, some 37, some 38, some 3, some 4] rfl rfl ?send
  case s0 =>
    intro val ρ W hE hz hd hA hx
    have o0 : ρ (.tmp 1) = .pointer (some ⟨q1, 0, none⟩) := hA.old 1 (by decide)
    have f_k0 := cell_below hE (by simp only; omega) k0
    have f_k1 := cell_below hE (by simp only; omega) k1
    have f_k2 := cell_below hE (by simp only; omega) k2
    have f_k3 := cell_below hE (by simp only; omega) k3
    have f_k4 := cell_below hE (by simp only; omega) k4
    have f_k5 := cell_below hE (by simp only; omega) k5
    have f_k6 := cell_below hE (by simp only; omega) k6
    have f_k7 := cell_below hE (by simp only; omega) k7
    clear hd
    exact runq_val (W' := W) (by simp [execOp, o0, f_k0, f_k1, f_k2, f_k3, f_k4, f_k5, f_k6, f_k7, go_sem]) (Below.refl _ _) rfl
  case s11 =>
    intro val ρ W hE hz hd hA hx
    have d9 : ρ (.tmp 38) = .int .i64 0 := (hA.dep 9 (by decide) 38 rfl).trans (hd 9 (by decide))
    clear hd
    exact runq_val (W' := W) (by simp [execOp, d9, go_sem]) (Below.refl _ _) rfl
  case s1 =>
    intro val ρ W hE hz hd hA hx
    clear hd
    exact runq_val (by simp [execOp, hA.const, go_sem]; exact ⟨rfl, rfl⟩) (by exact (by repeat (first | exact Below.refl _ _ | refine Ext.al ?_ _ | refine Ext.dr ?_ | refine Ext.drN ?_ _ | refine Ext.gr ?_ _ | refine Ext.set ?_ (by simp) _ | (refine Ext.trans' ?_ (by assumption))))) ⟨_, rfl, pl_new _ [1] _ _ _ rfl rfl (by decide)⟩
  case s2 =>
    intro val ρ W hE hz hd hA hx
    clear hd
    exact runq_val (by simp [execOp, hA.const, go_sem]; exact ⟨rfl, rfl⟩) (by exact (by repeat (first | exact Below.refl _ _ | refine Ext.al ?_ _ | refine Ext.dr ?_ | refine Ext.drN ?_ _ | refine Ext.gr ?_ _ | refine Ext.set ?_ (by simp) _ | (refine Ext.trans' ?_ (by assumption))))) ⟨_, rfl, pl_new _ [0] _ _ _ rfl rfl (by decide)⟩
  case s3 =>
    intro val ρ W hE hz hd hA hx
    clear hd
    exact runq_val (by simp [execOp, hA.const, go_sem]; exact ⟨rfl, rfl⟩) (by exact (by repeat (first | exact Below.refl _ _ | refine Ext.al ?_ _ | refine Ext.dr ?_ | refine Ext.drN ?_ _ | refine Ext.gr ?_ _ | refine Ext.set ?_ (by simp) _ | (refine Ext.trans' ?_ (by assumption))))) ⟨_, rfl, pl_new _ [2] _ _ _ rfl rfl (by decide)⟩
  case s4 =>
    intro val ρ W hE hz hd hA hx
    obtain ⟨b0, e0, i0⟩ : PL [1] (val 1) W := hd 1 (by decide)
    have d0 : ρ (.tmp 31) = .slice (some ⟨b0, 0, none⟩) 1 1 := (hA.dep 1 (by decide) 31 rfl).trans e0
    rw [e0] at i0
    obtain ⟨b1, e1, i1⟩ : PL [0] (val 2) W := hd 2 (by decide)
    have d1 : ρ (.tmp 32) = .slice (some ⟨b1, 0, none⟩) 1 1 := (hA.dep 2 (by decide) 32 rfl).trans e1
    rw [e1] at i1
    obtain ⟨b2, e2, i2⟩ : PL [2] (val 3) W := hd 3 (by decide)
    have d2 : ρ (.tmp 33) = .slice (some ⟨b2, 0, none⟩) 1 1 := (hA.dep 3 (by decide) 33 rfl).trans e2
    rw [e2] at i2
    clear hd
    refine runq_val (by simp [execOp, d0, d1, d2, go_sem]; exact ⟨rfl, rfl⟩) (by exact (by repeat (first | exact Below.refl _ _ | refine Ext.al ?_ _ | refine Ext.dr ?_ | refine Ext.drN ?_ _ | refine Ext.gr ?_ _ | refine Ext.set ?_ (by simp) _ | (refine Ext.trans' ?_ (by assumption))))) ⟨_, _, _, [(.slice (some ⟨b0, 0, none⟩) 1 1, [1]), (.slice (some ⟨b1, 0, none⟩) 1 1, [0]), (.slice (some ⟨b2, 0, none⟩) 1 1, [2])], rfl, rfl, fin_new _ _ _ _ _ rfl rfl ?_ (by simp)⟩
    intro x hx
    simp only [List.mem_cons, List.not_mem_nil, or_false] at hx
    rcases hx with rfl | rfl | rfl
    · exact i0
    · exact i1
    · exact i2
  case s5 =>
    intro val ρ W hE hz hd hA hx
    obtain ⟨a, n, c, ps, h1, h2, h3⟩ : PF [[1], [0], [2]] (val 4) W := hd 4 (by decide)
    rw [h1] at h3
    have d1 : ρ (.tmp 34) = .slice a n c := (hA.dep 4 (by decide) 34 rfl).trans h1
    clear hd
    refine runq_call 53 _ _ rfl #[.slice a n c] (hA.func _) (by simp [d1]) (fun args W => Try.call53 args W) ((inL_any a n c W).mono ?_)
    rintro e w' ⟨rfl, hb⟩
    exact ⟨_, rfl, hb, a, n, c, ps, rfl, h2, h3.ext hb⟩
  case s6 =>
    intro val ρ W hE hz hd hA hx
    obtain ⟨a, n, c, ps, h1, h2, h3⟩ : PF [[1], [0], [2]] (val 5) W := hd 5 (by decide)
    rw [h1] at h3
    have d1 : ρ (.tmp 35) = .slice a n c := (hA.dep 5 (by decide) 35 rfl).trans h1
    have d0 : ρ (.tmp 30) = .agg #[.int .i64 B1.kd, .int .i64 B1.n, .slice (some ⟨g1, 0, none⟩) B1.bets.length 3, .slice none B1.scr.length 0, .bool B1.fav, .int .i64 B1.car, .int .i64 B1.duty, .int .i64 B1.step] := (hA.dep 0 (by decide) 30 rfl).trans (hd 0 (by decide))
    clear hd
    refine runq_call 32 _ _ rfl #[.agg #[.int .i64 B1.kd, .int .i64 B1.n, .slice (some ⟨g1, 0, none⟩) B1.bets.length 3, .slice none B1.scr.length 0, .bool B1.fav, .int .i64 B1.car, .int .i64 B1.duty, .int .i64 B1.step], .slice a n c] (hA.func _) (by simp [d0, d1]) (fun args W => Try.call32 args W) ((dividendsP_any ps _ B1 (some ⟨g1, 0, none⟩) none 3 0 W (HI1.out.ext hE) h3).mono ?_)
    rintro e w' ⟨hb, u, rfl, hr⟩
    rw [h2, V1b.out] at hr
    exact ⟨_, rfl, hb, u, by rw [h2, V1a.out], hr⟩
  case s7 =>
    intro val ρ W hE hz hd hA hx
    have h : PT 3 0 ([((1, -1), 300)].map divRow) (val 6) W := hd 6 (by decide)
    have d1 : ρ (.tmp 36) = val 6 := hA.dep 6 (by decide) 36 rfl
    clear hd
    exact runq_val (W' := W) (by simp [execOp, d1, go_sem]) (Below.refl _ _) h
  case s8 =>
    intro val ρ W hE hz hd hA hx
    obtain ⟨u, h1, h2⟩ : PT 3 0 ([((1, -1), 300)].map divRow) (val 7) W := hd 7 (by decide)
    have d1 : ρ (.tmp 29) = .tuple #[u, .int .i64 0] := (hA.dep 7 (by decide) 29 rfl).trans h1
    clear hd
    exact runq_val (W' := W) (by simp [execOp, d1, go_sem]) (Below.refl _ _) h2
  case s9 =>
    intro val ρ W hE hz hd hA hx
    obtain ⟨u, h1, h2⟩ : PT 3 0 ([((1, -1), 300)].map divRow) (val 7) W := hd 7 (by decide)
    have d1 : ρ (.tmp 29) = .tuple #[u, .int .i64 0] := (hA.dep 7 (by decide) 29 rfl).trans h1
    clear hd
    exact runq_val (W' := W) (by simp [execOp, d1, go_sem]) (Below.refl _ _) rfl
  case s10 =>
    intro val ρ W hE hz hd hA hx
    have h : IsRows W 3 (val 8) ([((1, -1), 300)].map divRow) := hd 8 (by decide)
    have d1 : ρ (.tmp 37) = val 8 := hA.dep 8 (by decide) 37 rfl
    clear hd
    exact runq_val (W' := W) (by simp [execOp, d1, go_sem]) (Below.refl _ _) h
  case send =>
    intro val Z1 hE hzz hv
    obtain ⟨r0, r1, r2, r3, r4, r5, r6, r7, r8, r9, r10, r11, -⟩ := hv
    have r10' : IsRows Z1 3 (val 10) ([((1, -1), 300)].map divRow) := r10
    obtain ⟨uaa, uac, q10, -, -, -⟩ := divs_spec r10'
    rw [q10] at r10'
    have UA := Lib.hid r10'
    have q11 : val 11 = .int .i64 0 := r11
    replace HB1 := Lib.hid (HB1.out.ext hE)
    replace HB2 := Lib.hid (HB2.out.ext hE)
    replace HI1 := Lib.hid (HI1.out.ext hE)
    replace HI2 := Lib.hid (HI2.out.ext hE)
    replace HW := Lib.hid (HW.out.trans' hE)
    simp only [putD, q10, q11]
    go_frame
    clear hE hzz k0 k1 k2 k3 k4 k5 k6 k7 hzk r0 r1 r2 r3 r4 r5 r6 r7 r8 r9 r10 r11 q10 q11 r10'
    go_upto_region 3 with (fail)
    have hbkF := HB1.out
    have k0 := hbkF.c0
    have k1 := hbkF.c1
    have k2 := hbkF.c2
    have k3 := hbkF.c3
    have k4 := hbkF.c4
    have k5 := hbkF.c5
    have k6 := hbkF.c6
    have k7 := hbkF.c7
    have hzk := hbkF.lt
    clear hbkF
    go_wp2_with fail
    refine (scratch_any 2 B1 (some ⟨g1, 0, none⟩) none 3 0 _ HI1.out).mono ?_
    rintro e Z2 ⟨hE4, ⟨hne, -⟩ | ⟨-, ba4, sa4, bc4, sc4, rfl, hI4⟩⟩
    · exact absurd VS4.out.1 hne
    rw [VS4.out.2] at hI4 ⊢
    simp only [bookV]
    clear k0 k1 k2 k3 k4 k5 k6 k7 hzk
    replace HB1 := Lib.hid (HB1.out.ext hE4)
    replace HB2 := Lib.hid (HB2.out.ext hE4)
    replace HI1 := Lib.hid (HI1.out.ext hE4)
    replace HI2 := Lib.hid (HI2.out.ext hE4)
    replace UA := Lib.hid (UA.out.ext hE4)
    replace HW := Lib.hid (HW.out.trans' hE4)
    clear hE4
    go_upto_region 4 with (fail)
    obtain ⟨Z3, hZ5⟩ : ∃ Z5, Z5 = Z2.alloc (.cells #[.int .i64 B4.kd, .int .i64 B4.n, .slice ba4 B4.bets.length bc4, .slice sa4 B4.scr.length sc4, .bool B4.fav, .int .i64 B4.car, .int .i64 B4.duty, .int .i64 B4.step] 25) := ⟨_, rfl⟩
    rw [← hZ5]
    obtain ⟨q4, hq4⟩ : ∃ q4, q4 = Z2.heap.size := ⟨_, rfl⟩
    rw [← hq4]
    have hb5 : BookAt Z3 q4 B4 ba4 bc4 sa4 sc4 := by rw [hZ5, hq4]; exact ⟨by simp [go_sem], by simp [go_sem], by simp [go_sem], by simp [go_sem], by simp [go_sem], by simp [go_sem], by simp [go_sem], by simp [go_sem]⟩
    have hE45 : Ext Z2 Z3 := by rw [hZ5]; exact (by repeat (first | exact Below.refl _ _ | refine Ext.al ?_ _ | refine Ext.dr ?_ | refine Ext.drN ?_ _ | refine Ext.gr ?_ _ | refine Ext.set ?_ (by simp) _ | (refine Ext.trans' ?_ (by assumption))))
    have HB4 := Lib.hid hb5
    have HI4 := Lib.hid (hI4.ext hE45)
    replace HB1 := Lib.hid (HB1.out.ext hE45)
    replace HB2 := Lib.hid (HB2.out.ext hE45)
    replace HI1 := Lib.hid (HI1.out.ext hE45)
    replace HI2 := Lib.hid (HI2.out.ext hE45)
    replace UA := Lib.hid (UA.out.ext hE45)
    replace HW := Lib.hid (HW.out.trans' hE45)
    clear hE45 hZ5 hq4 hb5 hI4
    have hbkF := HB4.out
    have k0 := hbkF.c0
    have k1 := hbkF.c1
    have k2 := hbkF.c2
    have k3 := hbkF.c3
    have k4 := hbkF.c4
    have k5 := hbkF.c5
    have k6 := hbkF.c6
    have k7 := hbkF.c7
    have hzk := hbkF.lt
    clear hbkF
    refine wp_region_rove (Z3.heap.size) (Nat.le_refl _)
      [sqV (.agg #[.int .i64 B4.kd, .int .i64 B4.n, .slice ba4 B4.bets.length bc4, .slice sa4 B4.scr.length sc4, .bool B4.fav, .int .i64 B4.car, .int .i64 B4.duty, .int .i64 B4.step]),
       sqW (fun v W => PL [1] v W) (fun _ _ _ h e => PL.ext e h),
       sqW (fun v W => PL [0] v W) (fun _ _ _ h e => PL.ext e h),
       sqW (fun v W => PF [[1], [0]] v W) (fun _ _ _ h e => PF.ext e h),
       sqW (fun v W => PF [[1], [0]] v W) (fun _ _ _ h e => PF.ext e h),
       sqW (fun v W => PT 3 0 ([((1, -1), 240)].map divRow) v W) (fun _ _ _ h e => PT.ext e h),
       sqW (fun v W => PT 3 0 ([((1, -1), 240)].map divRow) v W) (fun _ _ _ h e => PT.ext e h),
       sqW (fun v W => IsRows W 3 v ([((1, -1), 240)].map divRow)) (fun _ _ _ h e => IsRows.ext e h),
       sqV (.int .i64 0),
       sqW (fun v W => IsRows W 3 v ([((1, -1), 240)].map divRow)) (fun _ _ _ h e => IsRows.ext e h),
       sqV (.int .i64 0)]
      [true, false, false, false, false, false, false, false, true, false, true] [false, false, false, false, false, false, false, false, false, false, false] [true, true, true, true, true, true, true, true, true, true, true] [true, true, true, true, true, true, true, true, true, true, true]
      (by kernel_rfl) (by kernel_rfl) (by decide +kernel) (by decide +kernel) (by decide +kernel) rfl ⟨rfl, rfl⟩ ⟨?s0, ?s1, ?s2, ?s3, ?s4, ?s5, ?s6, ?s7, ?s8, ?s9, ?s10, trivial⟩ [some 45, some 46, some 47, some 48, some 49, some 50, some 44, some 51, some 52, some 7, some 8] rfl rfl ?send
    case s0 =>
      intro val ρ W hE hz hd hA hx
      have o0 : ρ (.tmp 5) = .pointer (some ⟨q4, 0, none⟩) := hA.old 5 (by decide)
      have f_k0 := cell_below hE (by simp only; omega) k0
      have f_k1 := cell_below hE (by simp only; omega) k1
      have f_k2 := cell_below hE (by simp only; omega) k2
      have f_k3 := cell_below hE (by simp only; omega) k3
      have f_k4 := cell_below hE (by simp only; omega) k4
      have f_k5 := cell_below hE (by simp only; omega) k5
      have f_k6 := cell_below hE (by simp only; omega) k6
      have f_k7 := cell_below hE (by simp only; omega) k7
      clear hd
      exact runq_val (W' := W) (by simp [execOp, o0, f_k0, f_k1, f_k2, f_k3, f_k4, f_k5, f_k6, f_k7, go_sem]) (Below.refl _ _) rfl
    case s10 =>
      intro val ρ W hE hz hd hA hx
      have d8 : ρ (.tmp 52) = .int .i64 0 := (hA.dep 8 (by decide) 52 rfl).trans (hd 8 (by decide))
      clear hd
      exact runq_val (W' := W) (by simp [execOp, d8, go_sem]) (Below.refl _ _) rfl
    case s1 =>
      intro val ρ W hE hz hd hA hx
      clear hd
      exact runq_val (by simp [execOp, hA.const, go_sem]; exact ⟨rfl, rfl⟩) (by exact (by repeat (first | exact Below.refl _ _ | refine Ext.al ?_ _ | refine Ext.dr ?_ | refine Ext.drN ?_ _ | refine Ext.gr ?_ _ | refine Ext.set ?_ (by simp) _ | (refine Ext.trans' ?_ (by assumption))))) ⟨_, rfl, pl_new _ [1] _ _ _ rfl rfl (by decide)⟩
    case s2 =>
      intro val ρ W hE hz hd hA hx
      clear hd
      exact runq_val (by simp [execOp, hA.const, go_sem]; exact ⟨rfl, rfl⟩) (by exact (by repeat (first | exact Below.refl _ _ | refine Ext.al ?_ _ | refine Ext.dr ?_ | refine Ext.drN ?_ _ | refine Ext.gr ?_ _ | refine Ext.set ?_ (by simp) _ | (refine Ext.trans' ?_ (by assumption))))) ⟨_, rfl, pl_new _ [0] _ _ _ rfl rfl (by decide)⟩
    case s3 =>
      intro val ρ W hE hz hd hA hx
      obtain ⟨b0, e0, i0⟩ : PL [1] (val 1) W := hd 1 (by decide)
      have d0 : ρ (.tmp 46) = .slice (some ⟨b0, 0, none⟩) 1 1 := (hA.dep 1 (by decide) 46 rfl).trans e0
      rw [e0] at i0
      obtain ⟨b1, e1, i1⟩ : PL [0] (val 2) W := hd 2 (by decide)
      have d1 : ρ (.tmp 47) = .slice (some ⟨b1, 0, none⟩) 1 1 := (hA.dep 2 (by decide) 47 rfl).trans e1
      rw [e1] at i1
      clear hd
      refine runq_val (by simp [execOp, d0, d1, go_sem]; exact ⟨rfl, rfl⟩) (by exact (by repeat (first | exact Below.refl _ _ | refine Ext.al ?_ _ | refine Ext.dr ?_ | refine Ext.drN ?_ _ | refine Ext.gr ?_ _ | refine Ext.set ?_ (by simp) _ | (refine Ext.trans' ?_ (by assumption))))) ⟨_, _, _, [(.slice (some ⟨b0, 0, none⟩) 1 1, [1]), (.slice (some ⟨b1, 0, none⟩) 1 1, [0])], rfl, rfl, fin_new _ _ _ _ _ rfl rfl ?_ (by simp)⟩
      intro x hx
      simp only [List.mem_cons, List.not_mem_nil, or_false] at hx
      rcases hx with rfl | rfl
      · exact i0
      · exact i1
    case s4 =>
      intro val ρ W hE hz hd hA hx
      obtain ⟨a, n, c, ps, h1, h2, h3⟩ : PF [[1], [0]] (val 3) W := hd 3 (by decide)
      rw [h1] at h3
      have d1 : ρ (.tmp 48) = .slice a n c := (hA.dep 3 (by decide) 48 rfl).trans h1
      clear hd
      refine runq_call 53 _ _ rfl #[.slice a n c] (hA.func _) (by simp [d1]) (fun args W => Try.call53 args W) ((inL_any a n c W).mono ?_)
      rintro e w' ⟨rfl, hb⟩
      exact ⟨_, rfl, hb, a, n, c, ps, rfl, h2, h3.ext hb⟩
    case s5 =>
      intro val ρ W hE hz hd hA hx
      obtain ⟨a, n, c, ps, h1, h2, h3⟩ : PF [[1], [0]] (val 4) W := hd 4 (by decide)
      rw [h1] at h3
      have d1 : ρ (.tmp 49) = .slice a n c := (hA.dep 4 (by decide) 49 rfl).trans h1
      have d0 : ρ (.tmp 45) = .agg #[.int .i64 B4.kd, .int .i64 B4.n, .slice ba4 B4.bets.length bc4, .slice sa4 B4.scr.length sc4, .bool B4.fav, .int .i64 B4.car, .int .i64 B4.duty, .int .i64 B4.step] := (hA.dep 0 (by decide) 45 rfl).trans (hd 0 (by decide))
      clear hd
      refine runq_call 32 _ _ rfl #[.agg #[.int .i64 B4.kd, .int .i64 B4.n, .slice ba4 B4.bets.length bc4, .slice sa4 B4.scr.length sc4, .bool B4.fav, .int .i64 B4.car, .int .i64 B4.duty, .int .i64 B4.step], .slice a n c] (hA.func _) (by simp [d0, d1]) (fun args W => Try.call32 args W) ((dividendsP_any ps _ B4 ba4 sa4 bc4 sc4 W (HI4.out.ext hE) h3).mono ?_)
      rintro e w' ⟨hb, u, rfl, hr⟩
      rw [h2, V3b.out] at hr
      exact ⟨_, rfl, hb, u, by rw [h2, V3a.out], hr⟩
    case s6 =>
      intro val ρ W hE hz hd hA hx
      have h : PT 3 0 ([((1, -1), 240)].map divRow) (val 5) W := hd 5 (by decide)
      have d1 : ρ (.tmp 50) = val 5 := hA.dep 5 (by decide) 50 rfl
      clear hd
      exact runq_val (W' := W) (by simp [execOp, d1, go_sem]) (Below.refl _ _) h
    case s7 =>
      intro val ρ W hE hz hd hA hx
      obtain ⟨u, h1, h2⟩ : PT 3 0 ([((1, -1), 240)].map divRow) (val 6) W := hd 6 (by decide)
      have d1 : ρ (.tmp 44) = .tuple #[u, .int .i64 0] := (hA.dep 6 (by decide) 44 rfl).trans h1
      clear hd
      exact runq_val (W' := W) (by simp [execOp, d1, go_sem]) (Below.refl _ _) h2
    case s8 =>
      intro val ρ W hE hz hd hA hx
      obtain ⟨u, h1, h2⟩ : PT 3 0 ([((1, -1), 240)].map divRow) (val 6) W := hd 6 (by decide)
      have d1 : ρ (.tmp 44) = .tuple #[u, .int .i64 0] := (hA.dep 6 (by decide) 44 rfl).trans h1
      clear hd
      exact runq_val (W' := W) (by simp [execOp, d1, go_sem]) (Below.refl _ _) rfl
    case s9 =>
      intro val ρ W hE hz hd hA hx
      have h : IsRows W 3 (val 7) ([((1, -1), 240)].map divRow) := hd 7 (by decide)
      have d1 : ρ (.tmp 51) = val 7 := hA.dep 7 (by decide) 51 rfl
      clear hd
      exact runq_val (W' := W) (by simp [execOp, d1, go_sem]) (Below.refl _ _) h
    case send =>
      intro val Z4 hE hzz hv
      obtain ⟨r0, r1, r2, r3, r4, r5, r6, r7, r8, r9, r10, -⟩ := hv
      have r9' : IsRows Z4 3 (val 9) ([((1, -1), 240)].map divRow) := r9
      obtain ⟨uba, ubc, q9, -, -, -⟩ := divs_spec r9'
      rw [q9] at r9'
      have UB := Lib.hid r9'
      have q10 : val 10 = .int .i64 0 := r10
      replace HB1 := Lib.hid (HB1.out.ext hE)
      replace HB2 := Lib.hid (HB2.out.ext hE)
      replace HI1 := Lib.hid (HI1.out.ext hE)
      replace HI2 := Lib.hid (HI2.out.ext hE)
      replace UA := Lib.hid (UA.out.ext hE)
      replace HB4 := Lib.hid (HB4.out.ext hE)
      replace HI4 := Lib.hid (HI4.out.ext hE)
      replace HW := Lib.hid (HW.out.trans' hE)
      simp only [putD, q9, q10]
      go_frame
      clear hE hzz k0 k1 k2 k3 k4 k5 k6 k7 hzk r0 r1 r2 r3 r4 r5 r6 r7 r8 r9 r10 q9 q10 r9'
      go_upto_region 5 with (fail)
      have hbkF := HB4.out
      have k0 := hbkF.c0
      have k1 := hbkF.c1
      have k2 := hbkF.c2
      have k3 := hbkF.c3
      have k4 := hbkF.c4
      have k5 := hbkF.c5
      have k6 := hbkF.c6
      have k7 := hbkF.c7
      have hzk := hbkF.lt
      clear hbkF
      refine wp_region_rove (Z4.heap.size) (Nat.le_refl _)
        [sqV (.agg #[.int .i64 B4.kd, .int .i64 B4.n, .slice ba4 B4.bets.length bc4, .slice sa4 B4.scr.length sc4, .bool B4.fav, .int .i64 B4.car, .int .i64 B4.duty, .int .i64 B4.step]),
         sqW (fun v W => PL [1] v W) (fun _ _ _ h e => PL.ext e h),
         sqW (fun v W => PL [0] v W) (fun _ _ _ h e => PL.ext e h),
         sqW (fun v W => PF [[1], [0]] v W) (fun _ _ _ h e => PF.ext e h),
         sqW (fun v W => PF [[1], [0]] v W) (fun _ _ _ h e => PF.ext e h),
         sqV (.tuple #[.int .i64 200, .int .i64 0]),
         sqV (.tuple #[.int .i64 200, .int .i64 0]),
         sqV (.int .i64 200),
         sqV (.int .i64 0),
         sqV (.int .i64 200),
         sqV (.int .i64 0)]
        [true, false, false, false, false, true, true, true, true, true, true] [false, false, false, false, false, false, false, false, false, false, false] [true, true, true, true, true, true, true, true, true, true, true] [true, true, true, true, true, true, true, true, true, true, true]
        (by kernel_rfl) (by kernel_rfl) (by decide +kernel) (by decide +kernel) (by decide +kernel) rfl ⟨rfl, rfl⟩ ⟨?s0, ?s1, ?s2, ?s3, ?s4, ?s5, ?s6, ?s7, ?s8, ?s9, ?s10, trivial⟩ [some 54, some 55, some 56, some 57, some 58, some 59, some 53, some 60, some 61, some 9, some 10] rfl rfl ?send
      case s0 =>
        intro val ρ W hE hz hd hA hx
        have o0 : ρ (.tmp 5) = .pointer (some ⟨q4, 0, none⟩) := hA.old 5 (by decide)
        have f_k0 := cell_below hE (by simp only; omega) k0
        have f_k1 := cell_below hE (by simp only; omega) k1
        have f_k2 := cell_below hE (by simp only; omega) k2
        have f_k3 := cell_below hE (by simp only; omega) k3
        have f_k4 := cell_below hE (by simp only; omega) k4
        have f_k5 := cell_below hE (by simp only; omega) k5
        have f_k6 := cell_below hE (by simp only; omega) k6
        have f_k7 := cell_below hE (by simp only; omega) k7
        clear hd
        exact runq_val (W' := W) (by simp [execOp, o0, f_k0, f_k1, f_k2, f_k3, f_k4, f_k5, f_k6, f_k7, go_sem]) (Below.refl _ _) rfl
      case s6 =>
        intro val ρ W hE hz hd hA hx
        have d5 : ρ (.tmp 59) = .tuple #[.int .i64 200, .int .i64 0] := (hA.dep 5 (by decide) 59 rfl).trans (hd 5 (by decide))
        clear hd
        exact runq_val (W' := W) (by simp [execOp, d5, go_sem]) (Below.refl _ _) rfl
      case s7 =>
        intro val ρ W hE hz hd hA hx
        have d6 : ρ (.tmp 53) = .tuple #[.int .i64 200, .int .i64 0] := (hA.dep 6 (by decide) 53 rfl).trans (hd 6 (by decide))
        clear hd
        exact runq_val (W' := W) (by simp [execOp, d6, go_sem]) (Below.refl _ _) rfl
      case s8 =>
        intro val ρ W hE hz hd hA hx
        have d6 : ρ (.tmp 53) = .tuple #[.int .i64 200, .int .i64 0] := (hA.dep 6 (by decide) 53 rfl).trans (hd 6 (by decide))
        clear hd
        exact runq_val (W' := W) (by simp [execOp, d6, go_sem]) (Below.refl _ _) rfl
      case s9 =>
        intro val ρ W hE hz hd hA hx
        have d7 : ρ (.tmp 60) = .int .i64 200 := (hA.dep 7 (by decide) 60 rfl).trans (hd 7 (by decide))
        clear hd
        exact runq_val (W' := W) (by simp [execOp, d7, go_sem]) (Below.refl _ _) rfl
      case s10 =>
        intro val ρ W hE hz hd hA hx
        have d8 : ρ (.tmp 61) = .int .i64 0 := (hA.dep 8 (by decide) 61 rfl).trans (hd 8 (by decide))
        clear hd
        exact runq_val (W' := W) (by simp [execOp, d8, go_sem]) (Below.refl _ _) rfl
      case s1 =>
        intro val ρ W hE hz hd hA hx
        clear hd
        exact runq_val (by simp [execOp, hA.const, go_sem]; exact ⟨rfl, rfl⟩) (by exact (by repeat (first | exact Below.refl _ _ | refine Ext.al ?_ _ | refine Ext.dr ?_ | refine Ext.drN ?_ _ | refine Ext.gr ?_ _ | refine Ext.set ?_ (by simp) _ | (refine Ext.trans' ?_ (by assumption))))) ⟨_, rfl, pl_new _ [1] _ _ _ rfl rfl (by decide)⟩
      case s2 =>
        intro val ρ W hE hz hd hA hx
        clear hd
        exact runq_val (by simp [execOp, hA.const, go_sem]; exact ⟨rfl, rfl⟩) (by exact (by repeat (first | exact Below.refl _ _ | refine Ext.al ?_ _ | refine Ext.dr ?_ | refine Ext.drN ?_ _ | refine Ext.gr ?_ _ | refine Ext.set ?_ (by simp) _ | (refine Ext.trans' ?_ (by assumption))))) ⟨_, rfl, pl_new _ [0] _ _ _ rfl rfl (by decide)⟩
      case s3 =>
        intro val ρ W hE hz hd hA hx
        obtain ⟨b0, e0, i0⟩ : PL [1] (val 1) W := hd 1 (by decide)
        have d0 : ρ (.tmp 55) = .slice (some ⟨b0, 0, none⟩) 1 1 := (hA.dep 1 (by decide) 55 rfl).trans e0
        rw [e0] at i0
        obtain ⟨b1, e1, i1⟩ : PL [0] (val 2) W := hd 2 (by decide)
        have d1 : ρ (.tmp 56) = .slice (some ⟨b1, 0, none⟩) 1 1 := (hA.dep 2 (by decide) 56 rfl).trans e1
        rw [e1] at i1
        clear hd
        refine runq_val (by simp [execOp, d0, d1, go_sem]; exact ⟨rfl, rfl⟩) (by exact (by repeat (first | exact Below.refl _ _ | refine Ext.al ?_ _ | refine Ext.dr ?_ | refine Ext.drN ?_ _ | refine Ext.gr ?_ _ | refine Ext.set ?_ (by simp) _ | (refine Ext.trans' ?_ (by assumption))))) ⟨_, _, _, [(.slice (some ⟨b0, 0, none⟩) 1 1, [1]), (.slice (some ⟨b1, 0, none⟩) 1 1, [0])], rfl, rfl, fin_new _ _ _ _ _ rfl rfl ?_ (by simp)⟩
        intro x hx
        simp only [List.mem_cons, List.not_mem_nil, or_false] at hx
        rcases hx with rfl | rfl
        · exact i0
        · exact i1
      case s4 =>
        intro val ρ W hE hz hd hA hx
        obtain ⟨a, n, c, ps, h1, h2, h3⟩ : PF [[1], [0]] (val 3) W := hd 3 (by decide)
        rw [h1] at h3
        have d1 : ρ (.tmp 57) = .slice a n c := (hA.dep 3 (by decide) 57 rfl).trans h1
        clear hd
        refine runq_call 53 _ _ rfl #[.slice a n c] (hA.func _) (by simp [d1]) (fun args W => Try.call53 args W) ((inL_any a n c W).mono ?_)
        rintro e w' ⟨rfl, hb⟩
        exact ⟨_, rfl, hb, a, n, c, ps, rfl, h2, h3.ext hb⟩
      case s5 =>
        intro val ρ W hE hz hd hA hx
        obtain ⟨a, n, c, ps, h1, h2, h3⟩ : PF [[1], [0]] (val 4) W := hd 4 (by decide)
        rw [h1] at h3
        have d1 : ρ (.tmp 58) = .slice a n c := (hA.dep 4 (by decide) 58 rfl).trans h1
        have d0 : ρ (.tmp 54) = .agg #[.int .i64 B4.kd, .int .i64 B4.n, .slice ba4 B4.bets.length bc4, .slice sa4 B4.scr.length sc4, .bool B4.fav, .int .i64 B4.car, .int .i64 B4.duty, .int .i64 B4.step] := (hA.dep 0 (by decide) 54 rfl).trans (hd 0 (by decide))
        clear hd
        refine runq_call 36 _ _ rfl #[.agg #[.int .i64 B4.kd, .int .i64 B4.n, .slice ba4 B4.bets.length bc4, .slice sa4 B4.scr.length sc4, .bool B4.fav, .int .i64 B4.car, .int .i64 B4.duty, .int .i64 B4.step], .slice a n c, .int .i64 2] (hA.func _) (by simp [d0, d1, hA.const]) (fun args W => Try.call36 args W) ((pay_any ps _ 2 B4 ba4 sa4 bc4 sc4 W (HI4.out.ext hE) h3).mono ?_)
        rintro e w' ⟨rfl, hb⟩
        exact ⟨_, rfl, hb, by rw [h2]; exact V4.out⟩
      case send =>
        intro val Z5 hE hzz hv
        obtain ⟨r0, r1, r2, r3, r4, r5, r6, r7, r8, r9, r10, -⟩ := hv
        have q9 : val 9 = .int .i64 200 := r9
        have q10 : val 10 = .int .i64 0 := r10
        replace HB1 := Lib.hid (HB1.out.ext hE)
        replace HB2 := Lib.hid (HB2.out.ext hE)
        replace HI1 := Lib.hid (HI1.out.ext hE)
        replace HI2 := Lib.hid (HI2.out.ext hE)
        replace UA := Lib.hid (UA.out.ext hE)
        replace HB4 := Lib.hid (HB4.out.ext hE)
        replace HI4 := Lib.hid (HI4.out.ext hE)
        replace UB := Lib.hid (UB.out.ext hE)
        replace HW := Lib.hid (HW.out.trans' hE)
        simp only [putD, q9, q10]
        go_frame
        clear hE hzz k0 k1 k2 k3 k4 k5 k6 k7 hzk r0 r1 r2 r3 r4 r5 r6 r7 r8 r9 r10 q9 q10
        go_upto_region 6 with (fail)
        have hbkF := HB1.out
        have k0 := hbkF.c0
        have k1 := hbkF.c1
        have k2 := hbkF.c2
        have k3 := hbkF.c3
        have k4 := hbkF.c4
        have k5 := hbkF.c5
        have k6 := hbkF.c6
        have k7 := hbkF.c7
        have hzk := hbkF.lt
        clear hbkF
        refine wp_region_rove (Z5.heap.size) (Nat.le_refl _)
          [sqV (.agg #[.int .i64 B1.kd, .int .i64 B1.n, .slice (some ⟨g1, 0, none⟩) B1.bets.length 3, .slice none B1.scr.length 0, .bool B1.fav, .int .i64 B1.car, .int .i64 B1.duty, .int .i64 B1.step]),
           sqW (fun v W => PL [0, 1] v W) (fun _ _ _ h e => PL.ext e h),
           sqW (fun v W => PL [2] v W) (fun _ _ _ h e => PL.ext e h),
           sqW (fun v W => PF [[0, 1], [2]] v W) (fun _ _ _ h e => PF.ext e h),
           sqW (fun v W => PF [[0, 1], [2]] v W) (fun _ _ _ h e => PF.ext e h),
           sqV (.tuple #[.int .i64 0, .int .i64 0]),
           sqV (.tuple #[.int .i64 0, .int .i64 0]),
           sqV (.int .i64 0),
           sqV (.int .i64 0),
           sqV (.int .i64 0),
           sqV (.int .i64 0)]
          [true, false, false, false, false, true, true, true, true, true, true] [false, false, false, false, false, false, false, false, false, false, false] [true, true, true, true, true, true, true, true, true, true, true] [true, true, true, true, true, true, true, true, true, true, true]
          (by kernel_rfl) (by kernel_rfl) (by decide +kernel) (by decide +kernel) (by decide +kernel) rfl ⟨rfl, rfl⟩ ⟨?s0, ?s1, ?s2, ?s3, ?s4, ?s5, ?s6, ?s7, ?s8, ?s9, ?s10, trivial⟩ [some 63, some 64, some 65, some 66, some 67, some 68, some 62, some 69, some 70, some 11, some 12] rfl rfl ?send
        case s0 =>
          intro val ρ W hE hz hd hA hx
          have o0 : ρ (.tmp 1) = .pointer (some ⟨q1, 0, none⟩) := hA.old 1 (by decide)
          have f_k0 := cell_below hE (by simp only; omega) k0
          have f_k1 := cell_below hE (by simp only; omega) k1
          have f_k2 := cell_below hE (by simp only; omega) k2
          have f_k3 := cell_below hE (by simp only; omega) k3
          have f_k4 := cell_below hE (by simp only; omega) k4
          have f_k5 := cell_below hE (by simp only; omega) k5
          have f_k6 := cell_below hE (by simp only; omega) k6
          have f_k7 := cell_below hE (by simp only; omega) k7
          clear hd
          exact runq_val (W' := W) (by simp [execOp, o0, f_k0, f_k1, f_k2, f_k3, f_k4, f_k5, f_k6, f_k7, go_sem]) (Below.refl _ _) rfl
        case s6 =>
          intro val ρ W hE hz hd hA hx
          have d5 : ρ (.tmp 68) = .tuple #[.int .i64 0, .int .i64 0] := (hA.dep 5 (by decide) 68 rfl).trans (hd 5 (by decide))
          clear hd
          exact runq_val (W' := W) (by simp [execOp, d5, go_sem]) (Below.refl _ _) rfl
        case s7 =>
          intro val ρ W hE hz hd hA hx
          have d6 : ρ (.tmp 62) = .tuple #[.int .i64 0, .int .i64 0] := (hA.dep 6 (by decide) 62 rfl).trans (hd 6 (by decide))
          clear hd
          exact runq_val (W' := W) (by simp [execOp, d6, go_sem]) (Below.refl _ _) rfl
        case s8 =>
          intro val ρ W hE hz hd hA hx
          have d6 : ρ (.tmp 62) = .tuple #[.int .i64 0, .int .i64 0] := (hA.dep 6 (by decide) 62 rfl).trans (hd 6 (by decide))
          clear hd
          exact runq_val (W' := W) (by simp [execOp, d6, go_sem]) (Below.refl _ _) rfl
        case s9 =>
          intro val ρ W hE hz hd hA hx
          have d7 : ρ (.tmp 69) = .int .i64 0 := (hA.dep 7 (by decide) 69 rfl).trans (hd 7 (by decide))
          clear hd
          exact runq_val (W' := W) (by simp [execOp, d7, go_sem]) (Below.refl _ _) rfl
        case s10 =>
          intro val ρ W hE hz hd hA hx
          have d8 : ρ (.tmp 70) = .int .i64 0 := (hA.dep 8 (by decide) 70 rfl).trans (hd 8 (by decide))
          clear hd
          exact runq_val (W' := W) (by simp [execOp, d8, go_sem]) (Below.refl _ _) rfl
        case s1 =>
          intro val ρ W hE hz hd hA hx
          clear hd
          exact runq_val (by simp [execOp, hA.const, go_sem]; exact ⟨rfl, rfl⟩) (by exact (by repeat (first | exact Below.refl _ _ | refine Ext.al ?_ _ | refine Ext.dr ?_ | refine Ext.drN ?_ _ | refine Ext.gr ?_ _ | refine Ext.set ?_ (by simp) _ | (refine Ext.trans' ?_ (by assumption))))) ⟨_, rfl, pl_new _ [0, 1] _ _ _ rfl rfl (by decide)⟩
        case s2 =>
          intro val ρ W hE hz hd hA hx
          clear hd
          exact runq_val (by simp [execOp, hA.const, go_sem]; exact ⟨rfl, rfl⟩) (by exact (by repeat (first | exact Below.refl _ _ | refine Ext.al ?_ _ | refine Ext.dr ?_ | refine Ext.drN ?_ _ | refine Ext.gr ?_ _ | refine Ext.set ?_ (by simp) _ | (refine Ext.trans' ?_ (by assumption))))) ⟨_, rfl, pl_new _ [2] _ _ _ rfl rfl (by decide)⟩
        case s3 =>
          intro val ρ W hE hz hd hA hx
          obtain ⟨b0, e0, i0⟩ : PL [0, 1] (val 1) W := hd 1 (by decide)
          have d0 : ρ (.tmp 64) = .slice (some ⟨b0, 0, none⟩) 2 2 := (hA.dep 1 (by decide) 64 rfl).trans e0
          rw [e0] at i0
          obtain ⟨b1, e1, i1⟩ : PL [2] (val 2) W := hd 2 (by decide)
          have d1 : ρ (.tmp 65) = .slice (some ⟨b1, 0, none⟩) 1 1 := (hA.dep 2 (by decide) 65 rfl).trans e1
          rw [e1] at i1
          clear hd
          refine runq_val (by simp [execOp, d0, d1, go_sem]; exact ⟨rfl, rfl⟩) (by exact (by repeat (first | exact Below.refl _ _ | refine Ext.al ?_ _ | refine Ext.dr ?_ | refine Ext.drN ?_ _ | refine Ext.gr ?_ _ | refine Ext.set ?_ (by simp) _ | (refine Ext.trans' ?_ (by assumption))))) ⟨_, _, _, [(.slice (some ⟨b0, 0, none⟩) 2 2, [0, 1]), (.slice (some ⟨b1, 0, none⟩) 1 1, [2])], rfl, rfl, fin_new _ _ _ _ _ rfl rfl ?_ (by simp)⟩
          intro x hx
          simp only [List.mem_cons, List.not_mem_nil, or_false] at hx
          rcases hx with rfl | rfl
          · exact i0
          · exact i1
        case s4 =>
          intro val ρ W hE hz hd hA hx
          obtain ⟨a, n, c, ps, h1, h2, h3⟩ : PF [[0, 1], [2]] (val 3) W := hd 3 (by decide)
          rw [h1] at h3
          have d1 : ρ (.tmp 66) = .slice a n c := (hA.dep 3 (by decide) 66 rfl).trans h1
          clear hd
          refine runq_call 53 _ _ rfl #[.slice a n c] (hA.func _) (by simp [d1]) (fun args W => Try.call53 args W) ((inL_any a n c W).mono ?_)
          rintro e w' ⟨rfl, hb⟩
          exact ⟨_, rfl, hb, a, n, c, ps, rfl, h2, h3.ext hb⟩
        case s5 =>
          intro val ρ W hE hz hd hA hx
          obtain ⟨a, n, c, ps, h1, h2, h3⟩ : PF [[0, 1], [2]] (val 4) W := hd 4 (by decide)
          rw [h1] at h3
          have d1 : ρ (.tmp 67) = .slice a n c := (hA.dep 4 (by decide) 67 rfl).trans h1
          have d0 : ρ (.tmp 63) = .agg #[.int .i64 B1.kd, .int .i64 B1.n, .slice (some ⟨g1, 0, none⟩) B1.bets.length 3, .slice none B1.scr.length 0, .bool B1.fav, .int .i64 B1.car, .int .i64 B1.duty, .int .i64 B1.step] := (hA.dep 0 (by decide) 63 rfl).trans (hd 0 (by decide))
          clear hd
          refine runq_call 36 _ _ rfl #[.agg #[.int .i64 B1.kd, .int .i64 B1.n, .slice (some ⟨g1, 0, none⟩) B1.bets.length 3, .slice none B1.scr.length 0, .bool B1.fav, .int .i64 B1.car, .int .i64 B1.duty, .int .i64 B1.step], .slice a n c, .int .i64 2] (hA.func _) (by simp [d0, d1, hA.const]) (fun args W => Try.call36 args W) ((pay_any ps _ 2 B1 (some ⟨g1, 0, none⟩) none 3 0 W (HI1.out.ext hE) h3).mono ?_)
          rintro e w' ⟨rfl, hb⟩
          exact ⟨_, rfl, hb, by rw [h2]; exact V5.out⟩
        case send =>
          intro val Z6 hE hzz hv
          obtain ⟨r0, r1, r2, r3, r4, r5, r6, r7, r8, r9, r10, -⟩ := hv
          have q9 : val 9 = .int .i64 0 := r9
          have q10 : val 10 = .int .i64 0 := r10
          replace HB1 := Lib.hid (HB1.out.ext hE)
          replace HB2 := Lib.hid (HB2.out.ext hE)
          replace HI1 := Lib.hid (HI1.out.ext hE)
          replace HI2 := Lib.hid (HI2.out.ext hE)
          replace UA := Lib.hid (UA.out.ext hE)
          replace UB := Lib.hid (UB.out.ext hE)
          replace HW := Lib.hid (HW.out.trans' hE)
          simp only [putD, q9, q10]
          go_frame
          clear hE hzz k0 k1 k2 k3 k4 k5 k6 k7 hzk r0 r1 r2 r3 r4 r5 r6 r7 r8 r9 r10 q9 q10
          go_upto_region 7 with (fail)
          have hbkF := HB2.out
          have k0 := hbkF.c0
          have k1 := hbkF.c1
          have k2 := hbkF.c2
          have k3 := hbkF.c3
          have k4 := hbkF.c4
          have k5 := hbkF.c5
          have k6 := hbkF.c6
          have k7 := hbkF.c7
          have hzk := hbkF.lt
          clear hbkF
          refine wp_region_rove (Z6.heap.size) (Nat.le_refl _)
            [sqV (.agg #[.int .i64 B3.kd, .int .i64 B3.n, .slice (some ⟨g3, 0, none⟩) B3.bets.length 2, .slice none B3.scr.length 0, .bool B3.fav, .int .i64 B3.car, .int .i64 B3.duty, .int .i64 B3.step]),
             sqW (fun v W => PL [0, 1] v W) (fun _ _ _ h e => PL.ext e h),
             sqW (fun v W => PL [2] v W) (fun _ _ _ h e => PL.ext e h),
             sqW (fun v W => PF [[0, 1], [2]] v W) (fun _ _ _ h e => PF.ext e h),
             sqW (fun v W => PF [[0, 1], [2]] v W) (fun _ _ _ h e => PF.ext e h),
             sqW (fun v W => PT 3 0 ([((0, 1), 130), ((1, 0), 90)].map divRow) v W) (fun _ _ _ h e => PT.ext e h),
             sqW (fun v W => PT 3 0 ([((0, 1), 130), ((1, 0), 90)].map divRow) v W) (fun _ _ _ h e => PT.ext e h),
             sqW (fun v W => IsRows W 3 v ([((0, 1), 130), ((1, 0), 90)].map divRow)) (fun _ _ _ h e => IsRows.ext e h),
             sqV (.int .i64 0),
             sqW (fun v W => IsRows W 3 v ([((0, 1), 130), ((1, 0), 90)].map divRow)) (fun _ _ _ h e => IsRows.ext e h),
             sqV (.int .i64 0)]
            [true, false, false, false, false, false, false, false, true, false, true] [false, false, false, false, false, false, false, false, false, false, false] [true, true, true, true, true, true, true, true, true, true, true] [true, true, true, true, true, true, true, true, true, true, true]
            (by kernel_rfl) (by kernel_rfl) (by decide +kernel) (by decide +kernel) (by decide +kernel) rfl ⟨rfl, rfl⟩ ⟨?s0, ?s1, ?s2, ?s3, ?s4, ?s5, ?s6, ?s7, ?s8, ?s9, ?s10, trivial⟩ [some 72, some 73, some 74, some 75, some 76, some 77, some 71, some 78, some 79, some 13, some 14] rfl rfl ?send
          case s0 =>
            intro val ρ W hE hz hd hA hx
            have o0 : ρ (.tmp 2) = .pointer (some ⟨q1 + 1, 0, none⟩) := hA.old 2 (by decide)
            have f_k0 := cell_below hE (by simp only; omega) k0
            have f_k1 := cell_below hE (by simp only; omega) k1
            have f_k2 := cell_below hE (by simp only; omega) k2
            have f_k3 := cell_below hE (by simp only; omega) k3
            have f_k4 := cell_below hE (by simp only; omega) k4
            have f_k5 := cell_below hE (by simp only; omega) k5
            have f_k6 := cell_below hE (by simp only; omega) k6
            have f_k7 := cell_below hE (by simp only; omega) k7
            clear hd
            exact runq_val (W' := W) (by simp [execOp, o0, f_k0, f_k1, f_k2, f_k3, f_k4, f_k5, f_k6, f_k7, go_sem]) (Below.refl _ _) rfl
          case s10 =>
            intro val ρ W hE hz hd hA hx
            have d8 : ρ (.tmp 79) = .int .i64 0 := (hA.dep 8 (by decide) 79 rfl).trans (hd 8 (by decide))
            clear hd
            exact runq_val (W' := W) (by simp [execOp, d8, go_sem]) (Below.refl _ _) rfl
          case s1 =>
            intro val ρ W hE hz hd hA hx
            clear hd
            exact runq_val (by simp [execOp, hA.const, go_sem]; exact ⟨rfl, rfl⟩) (by exact (by repeat (first | exact Below.refl _ _ | refine Ext.al ?_ _ | refine Ext.dr ?_ | refine Ext.drN ?_ _ | refine Ext.gr ?_ _ | refine Ext.set ?_ (by simp) _ | (refine Ext.trans' ?_ (by assumption))))) ⟨_, rfl, pl_new _ [0, 1] _ _ _ rfl rfl (by decide)⟩
          case s2 =>
            intro val ρ W hE hz hd hA hx
            clear hd
            exact runq_val (by simp [execOp, hA.const, go_sem]; exact ⟨rfl, rfl⟩) (by exact (by repeat (first | exact Below.refl _ _ | refine Ext.al ?_ _ | refine Ext.dr ?_ | refine Ext.drN ?_ _ | refine Ext.gr ?_ _ | refine Ext.set ?_ (by simp) _ | (refine Ext.trans' ?_ (by assumption))))) ⟨_, rfl, pl_new _ [2] _ _ _ rfl rfl (by decide)⟩
          case s3 =>
            intro val ρ W hE hz hd hA hx
            obtain ⟨b0, e0, i0⟩ : PL [0, 1] (val 1) W := hd 1 (by decide)
            have d0 : ρ (.tmp 73) = .slice (some ⟨b0, 0, none⟩) 2 2 := (hA.dep 1 (by decide) 73 rfl).trans e0
            rw [e0] at i0
            obtain ⟨b1, e1, i1⟩ : PL [2] (val 2) W := hd 2 (by decide)
            have d1 : ρ (.tmp 74) = .slice (some ⟨b1, 0, none⟩) 1 1 := (hA.dep 2 (by decide) 74 rfl).trans e1
            rw [e1] at i1
            clear hd
            refine runq_val (by simp [execOp, d0, d1, go_sem]; exact ⟨rfl, rfl⟩) (by exact (by repeat (first | exact Below.refl _ _ | refine Ext.al ?_ _ | refine Ext.dr ?_ | refine Ext.drN ?_ _ | refine Ext.gr ?_ _ | refine Ext.set ?_ (by simp) _ | (refine Ext.trans' ?_ (by assumption))))) ⟨_, _, _, [(.slice (some ⟨b0, 0, none⟩) 2 2, [0, 1]), (.slice (some ⟨b1, 0, none⟩) 1 1, [2])], rfl, rfl, fin_new _ _ _ _ _ rfl rfl ?_ (by simp)⟩
            intro x hx
            simp only [List.mem_cons, List.not_mem_nil, or_false] at hx
            rcases hx with rfl | rfl
            · exact i0
            · exact i1
          case s4 =>
            intro val ρ W hE hz hd hA hx
            obtain ⟨a, n, c, ps, h1, h2, h3⟩ : PF [[0, 1], [2]] (val 3) W := hd 3 (by decide)
            rw [h1] at h3
            have d1 : ρ (.tmp 75) = .slice a n c := (hA.dep 3 (by decide) 75 rfl).trans h1
            clear hd
            refine runq_call 53 _ _ rfl #[.slice a n c] (hA.func _) (by simp [d1]) (fun args W => Try.call53 args W) ((inL_any a n c W).mono ?_)
            rintro e w' ⟨rfl, hb⟩
            exact ⟨_, rfl, hb, a, n, c, ps, rfl, h2, h3.ext hb⟩
          case s5 =>
            intro val ρ W hE hz hd hA hx
            obtain ⟨a, n, c, ps, h1, h2, h3⟩ : PF [[0, 1], [2]] (val 4) W := hd 4 (by decide)
            rw [h1] at h3
            have d1 : ρ (.tmp 76) = .slice a n c := (hA.dep 4 (by decide) 76 rfl).trans h1
            have d0 : ρ (.tmp 72) = .agg #[.int .i64 B3.kd, .int .i64 B3.n, .slice (some ⟨g3, 0, none⟩) B3.bets.length 2, .slice none B3.scr.length 0, .bool B3.fav, .int .i64 B3.car, .int .i64 B3.duty, .int .i64 B3.step] := (hA.dep 0 (by decide) 72 rfl).trans (hd 0 (by decide))
            clear hd
            refine runq_call 32 _ _ rfl #[.agg #[.int .i64 B3.kd, .int .i64 B3.n, .slice (some ⟨g3, 0, none⟩) B3.bets.length 2, .slice none B3.scr.length 0, .bool B3.fav, .int .i64 B3.car, .int .i64 B3.duty, .int .i64 B3.step], .slice a n c] (hA.func _) (by simp [d0, d1]) (fun args W => Try.call32 args W) ((dividendsP_any ps _ B3 (some ⟨g3, 0, none⟩) none 2 0 W (HI2.out.ext hE) h3).mono ?_)
            rintro e w' ⟨hb, u, rfl, hr⟩
            rw [h2, V6b.out] at hr
            exact ⟨_, rfl, hb, u, by rw [h2, V6a.out], hr⟩
          case s6 =>
            intro val ρ W hE hz hd hA hx
            have h : PT 3 0 ([((0, 1), 130), ((1, 0), 90)].map divRow) (val 5) W := hd 5 (by decide)
            have d1 : ρ (.tmp 77) = val 5 := hA.dep 5 (by decide) 77 rfl
            clear hd
            exact runq_val (W' := W) (by simp [execOp, d1, go_sem]) (Below.refl _ _) h
          case s7 =>
            intro val ρ W hE hz hd hA hx
            obtain ⟨u, h1, h2⟩ : PT 3 0 ([((0, 1), 130), ((1, 0), 90)].map divRow) (val 6) W := hd 6 (by decide)
            have d1 : ρ (.tmp 71) = .tuple #[u, .int .i64 0] := (hA.dep 6 (by decide) 71 rfl).trans h1
            clear hd
            exact runq_val (W' := W) (by simp [execOp, d1, go_sem]) (Below.refl _ _) h2
          case s8 =>
            intro val ρ W hE hz hd hA hx
            obtain ⟨u, h1, h2⟩ : PT 3 0 ([((0, 1), 130), ((1, 0), 90)].map divRow) (val 6) W := hd 6 (by decide)
            have d1 : ρ (.tmp 71) = .tuple #[u, .int .i64 0] := (hA.dep 6 (by decide) 71 rfl).trans h1
            clear hd
            exact runq_val (W' := W) (by simp [execOp, d1, go_sem]) (Below.refl _ _) rfl
          case s9 =>
            intro val ρ W hE hz hd hA hx
            have h : IsRows W 3 (val 7) ([((0, 1), 130), ((1, 0), 90)].map divRow) := hd 7 (by decide)
            have d1 : ρ (.tmp 78) = val 7 := hA.dep 7 (by decide) 78 rfl
            clear hd
            exact runq_val (W' := W) (by simp [execOp, d1, go_sem]) (Below.refl _ _) h
          case send =>
            intro val Z7 hE hzz hv
            obtain ⟨r0, r1, r2, r3, r4, r5, r6, r7, r8, r9, r10, -⟩ := hv
            have r9' : IsRows Z7 3 (val 9) ([((0, 1), 130), ((1, 0), 90)].map divRow) := r9
            obtain ⟨uca, ucc, q9, -, -, -⟩ := divs_spec r9'
            rw [q9] at r9'
            have UC := Lib.hid r9'
            have q10 : val 10 = .int .i64 0 := r10
            replace HB1 := Lib.hid (HB1.out.ext hE)
            replace HB2 := Lib.hid (HB2.out.ext hE)
            replace HI1 := Lib.hid (HI1.out.ext hE)
            replace HI2 := Lib.hid (HI2.out.ext hE)
            replace UA := Lib.hid (UA.out.ext hE)
            replace UB := Lib.hid (UB.out.ext hE)
            replace HW := Lib.hid (HW.out.trans' hE)
            simp only [putD, q9, q10]
            go_frame
            clear hE hzz k0 k1 k2 k3 k4 k5 k6 k7 hzk r0 r1 r2 r3 r4 r5 r6 r7 r8 r9 r10 q9 q10 r9'
            go_upto_region 8 with (fail)
            have hbkF := HB2.out
            have k0 := hbkF.c0
            have k1 := hbkF.c1
            have k2 := hbkF.c2
            have k3 := hbkF.c3
            have k4 := hbkF.c4
            have k5 := hbkF.c5
            have k6 := hbkF.c6
            have k7 := hbkF.c7
            have hzk := hbkF.lt
            clear hbkF
            refine wp_region_rove (Z7.heap.size) (Nat.le_refl _)
              [sqV (.agg #[.int .i64 B3.kd, .int .i64 B3.n, .slice (some ⟨g3, 0, none⟩) B3.bets.length 2, .slice none B3.scr.length 0, .bool B3.fav, .int .i64 B3.car, .int .i64 B3.duty, .int .i64 B3.step]),
               sqW (fun v W => PL [2] v W) (fun _ _ _ h e => PL.ext e h),
               sqW (fun v W => PL [0] v W) (fun _ _ _ h e => PL.ext e h),
               sqW (fun v W => PL [1] v W) (fun _ _ _ h e => PL.ext e h),
               sqW (fun v W => PF [[2], [0], [1]] v W) (fun _ _ _ h e => PF.ext e h),
               sqW (fun v W => PF [[2], [0], [1]] v W) (fun _ _ _ h e => PF.ext e h),
               sqV (.tuple #[.agg #[.int .i64 550, .int .i64 0, .int .i64 0, .int .i64 0, .int .i64 0, .int .i64 550], .int .i64 0]),
               sqV (.tuple #[.agg #[.int .i64 550, .int .i64 0, .int .i64 0, .int .i64 0, .int .i64 0, .int .i64 550], .int .i64 0]),
               sqV (.agg #[.int .i64 550, .int .i64 0, .int .i64 0, .int .i64 0, .int .i64 0, .int .i64 550]),
               sqV (.int .i64 0),
               sqW (fun v W => PA Z7.heap.size v W) (fun _ _ _ h e => PA.ext e h),
               sqD [10] (fun l v W => ∃ q, l = [.pointer (some ⟨q, 0, none⟩)] ∧ Z7.heap.size ≤ q ∧ AccAt W q ⟨550, 0, 0, 0, 0, 550⟩) (fun _ _ _ _ ⟨q, h1, h2, h3⟩ e => ⟨q, h1, h2, h3.ext e⟩),
               sqV (.int .i64 0)]
              [true, false, false, false, false, false, true, true, true, true, false, false, true] [false, false, false, false, false, false, false, false, false, false, false, true, false] [true, false, false, false, false, false, true, true, true, true, false, true, true] [true, true, true, true, true, true, true, true, true, false, true, true, false]
              (by kernel_rfl) (by kernel_rfl) (by decide +kernel) (by decide +kernel) (by decide +kernel) rfl ⟨rfl, rfl⟩ ⟨?s0, ?s1, ?s2, ?s3, ?s4, ?s5, ?s6, ?s7, ?s8, ?s9, ?s10, ?s11, ?s12, trivial⟩ [some 81, some 82, some 83, some 84, some 85, some 86, some 87, some 80, some 88, some 89, some 15, none, some 16] rfl rfl ?send
            case s0 =>
              intro val ρ W hE hz hd hA hx
              have o0 : ρ (.tmp 2) = .pointer (some ⟨q1 + 1, 0, none⟩) := hA.old 2 (by decide)
              have f_k0 := cell_below hE (by simp only; omega) k0
              have f_k1 := cell_below hE (by simp only; omega) k1
              have f_k2 := cell_below hE (by simp only; omega) k2
              have f_k3 := cell_below hE (by simp only; omega) k3
              have f_k4 := cell_below hE (by simp only; omega) k4
              have f_k5 := cell_below hE (by simp only; omega) k5
              have f_k6 := cell_below hE (by simp only; omega) k6
              have f_k7 := cell_below hE (by simp only; omega) k7
              clear hd
              exact runq_val (W' := W) (by simp [execOp, o0, f_k0, f_k1, f_k2, f_k3, f_k4, f_k5, f_k6, f_k7, go_sem]) (Below.refl _ _) rfl
            case s7 =>
              intro val ρ W hE hz hd hA hx
              have d6 : ρ (.tmp 87) = .tuple #[.agg #[.int .i64 550, .int .i64 0, .int .i64 0, .int .i64 0, .int .i64 0, .int .i64 550], .int .i64 0] := (hA.dep 6 (by decide) 87 rfl).trans (hd 6 (by decide))
              clear hd
              exact runq_val (W' := W) (by simp [execOp, d6, go_sem]) (Below.refl _ _) rfl
            case s8 =>
              intro val ρ W hE hz hd hA hx
              have d7 : ρ (.tmp 80) = .tuple #[.agg #[.int .i64 550, .int .i64 0, .int .i64 0, .int .i64 0, .int .i64 0, .int .i64 550], .int .i64 0] := (hA.dep 7 (by decide) 80 rfl).trans (hd 7 (by decide))
              clear hd
              exact runq_val (W' := W) (by simp [execOp, d7, go_sem]) (Below.refl _ _) rfl
            case s9 =>
              intro val ρ W hE hz hd hA hx
              have d7 : ρ (.tmp 80) = .tuple #[.agg #[.int .i64 550, .int .i64 0, .int .i64 0, .int .i64 0, .int .i64 0, .int .i64 550], .int .i64 0] := (hA.dep 7 (by decide) 80 rfl).trans (hd 7 (by decide))
              clear hd
              exact runq_val (W' := W) (by simp [execOp, d7, go_sem]) (Below.refl _ _) rfl
            case s12 =>
              intro val ρ W hE hz hd hA hx
              have d9 : ρ (.tmp 89) = .int .i64 0 := (hA.dep 9 (by decide) 89 rfl).trans (hd 9 (by decide))
              clear hd
              exact runq_val (W' := W) (by simp [execOp, d9, go_sem]) (Below.refl _ _) rfl
            case s1 =>
              intro val ρ W hE hz hd hA hx
              clear hd
              exact runq_val (by simp [execOp, hA.const, go_sem]; exact ⟨rfl, rfl⟩) (by exact (by repeat (first | exact Below.refl _ _ | refine Ext.al ?_ _ | refine Ext.dr ?_ | refine Ext.drN ?_ _ | refine Ext.gr ?_ _ | refine Ext.set ?_ (by simp) _ | (refine Ext.trans' ?_ (by assumption))))) ⟨_, rfl, pl_new _ [2] _ _ _ rfl rfl (by decide)⟩
            case s2 =>
              intro val ρ W hE hz hd hA hx
              clear hd
              exact runq_val (by simp [execOp, hA.const, go_sem]; exact ⟨rfl, rfl⟩) (by exact (by repeat (first | exact Below.refl _ _ | refine Ext.al ?_ _ | refine Ext.dr ?_ | refine Ext.drN ?_ _ | refine Ext.gr ?_ _ | refine Ext.set ?_ (by simp) _ | (refine Ext.trans' ?_ (by assumption))))) ⟨_, rfl, pl_new _ [0] _ _ _ rfl rfl (by decide)⟩
            case s3 =>
              intro val ρ W hE hz hd hA hx
              clear hd
              exact runq_val (by simp [execOp, hA.const, go_sem]; exact ⟨rfl, rfl⟩) (by exact (by repeat (first | exact Below.refl _ _ | refine Ext.al ?_ _ | refine Ext.dr ?_ | refine Ext.drN ?_ _ | refine Ext.gr ?_ _ | refine Ext.set ?_ (by simp) _ | (refine Ext.trans' ?_ (by assumption))))) ⟨_, rfl, pl_new _ [1] _ _ _ rfl rfl (by decide)⟩
            case s4 =>
              intro val ρ W hE hz hd hA hx
              obtain ⟨b0, e0, i0⟩ : PL [2] (val 1) W := hd 1 (by decide)
              have d0 : ρ (.tmp 82) = .slice (some ⟨b0, 0, none⟩) 1 1 := (hA.dep 1 (by decide) 82 rfl).trans e0
              rw [e0] at i0
              obtain ⟨b1, e1, i1⟩ : PL [0] (val 2) W := hd 2 (by decide)
              have d1 : ρ (.tmp 83) = .slice (some ⟨b1, 0, none⟩) 1 1 := (hA.dep 2 (by decide) 83 rfl).trans e1
              rw [e1] at i1
              obtain ⟨b2, e2, i2⟩ : PL [1] (val 3) W := hd 3 (by decide)
              have d2 : ρ (.tmp 84) = .slice (some ⟨b2, 0, none⟩) 1 1 := (hA.dep 3 (by decide) 84 rfl).trans e2
              rw [e2] at i2
              clear hd
              refine runq_val (by simp [execOp, d0, d1, d2, go_sem]; exact ⟨rfl, rfl⟩) (by exact (by repeat (first | exact Below.refl _ _ | refine Ext.al ?_ _ | refine Ext.dr ?_ | refine Ext.drN ?_ _ | refine Ext.gr ?_ _ | refine Ext.set ?_ (by simp) _ | (refine Ext.trans' ?_ (by assumption))))) ⟨_, _, _, [(.slice (some ⟨b0, 0, none⟩) 1 1, [2]), (.slice (some ⟨b1, 0, none⟩) 1 1, [0]), (.slice (some ⟨b2, 0, none⟩) 1 1, [1])], rfl, rfl, fin_new _ _ _ _ _ rfl rfl ?_ (by simp)⟩
              intro x hx
              simp only [List.mem_cons, List.not_mem_nil, or_false] at hx
              rcases hx with rfl | rfl | rfl
              · exact i0
              · exact i1
              · exact i2
            case s5 =>
              intro val ρ W hE hz hd hA hx
              obtain ⟨a, n, c, ps, h1, h2, h3⟩ : PF [[2], [0], [1]] (val 4) W := hd 4 (by decide)
              rw [h1] at h3
              have d1 : ρ (.tmp 85) = .slice a n c := (hA.dep 4 (by decide) 85 rfl).trans h1
              clear hd
              refine runq_call 53 _ _ rfl #[.slice a n c] (hA.func _) (by simp [d1]) (fun args W => Try.call53 args W) ((inL_any a n c W).mono ?_)
              rintro e w' ⟨rfl, hb⟩
              exact ⟨_, rfl, hb, a, n, c, ps, rfl, h2, h3.ext hb⟩
            case s6 =>
              intro val ρ W hE hz hd hA hx
              obtain ⟨a, n, c, ps, h1, h2, h3⟩ : PF [[2], [0], [1]] (val 5) W := hd 5 (by decide)
              rw [h1] at h3
              have d1 : ρ (.tmp 86) = .slice a n c := (hA.dep 5 (by decide) 86 rfl).trans h1
              have d0 : ρ (.tmp 81) = .agg #[.int .i64 B3.kd, .int .i64 B3.n, .slice (some ⟨g3, 0, none⟩) B3.bets.length 2, .slice none B3.scr.length 0, .bool B3.fav, .int .i64 B3.car, .int .i64 B3.duty, .int .i64 B3.step] := (hA.dep 0 (by decide) 81 rfl).trans (hd 0 (by decide))
              clear hd
              refine runq_call 34 _ _ rfl #[.agg #[.int .i64 B3.kd, .int .i64 B3.n, .slice (some ⟨g3, 0, none⟩) B3.bets.length 2, .slice none B3.scr.length 0, .bool B3.fav, .int .i64 B3.car, .int .i64 B3.duty, .int .i64 B3.step], .slice a n c] (hA.func _) (by simp [d0, d1]) (fun args W => Try.call34 args W) ((account_any ps _ B3 (some ⟨g3, 0, none⟩) none 2 0 W (HI2.out.ext hE) h3).mono ?_)
              rintro e w' ⟨rfl, hb⟩
              exact ⟨_, rfl, hb, by rw [h2]; exact V7.out⟩
            case s10 =>
              intro val ρ W hE hz hd hA hx
              clear hd
              exact runq_val (W' := W.alloc (.cells #[.int .i64 0, .int .i64 0, .int .i64 0, .int .i64 0, .int .i64 0, .int .i64 0] 48)) (by simp [execOp, go_sem]) (by repeat (first | exact Below.refl _ _ | refine Ext.al ?_ _ | refine Ext.dr ?_ | refine Ext.drN ?_ _ | refine Ext.gr ?_ _ | refine Ext.set ?_ (by simp) _ | (refine Ext.trans' ?_ (by assumption)))) ⟨_, rfl, hE.size, World.alloc_heap_new W _⟩
            case s11 =>
              intro val ρ W hE hz hd hA hx
              obtain ⟨q, e1, hB, hacc⟩ : PA Z7.heap.size (val 10) W := hd 10 (by decide)
              have dq : ρ (.tmp 15) = .pointer (some ⟨q, 0, none⟩) := (hA.dep 10 (by decide) 15 rfl).trans e1
              have d5 : ρ (.tmp 88) = .agg #[.int .i64 550, .int .i64 0, .int .i64 0, .int .i64 0, .int .i64 0, .int .i64 550] := (hA.dep 8 (by decide) 88 rfl).trans (hd 8 (by decide))
              clear hd
              have c0q := (hacc).c0
              have c1q := (hacc).c1
              have c2q := (hacc).c2
              have c3q := (hacc).c3
              have c4q := (hacc).c4
              have c5q := (hacc).c5
              have cfq := fun o => (hacc).fr o
              have czq := (hacc).lt
              simp only at c0q c1q c2q c3q c4q c5q
              exact runq_skip (W' := ((((((W.setCell ⟨q, 0, none⟩ (.int .i64 550)).setCell ⟨q, 1, none⟩ (.int .i64 0)).setCell ⟨q, 2, none⟩ (.int .i64 0)).setCell ⟨q, 3, none⟩ (.int .i64 0)).setCell ⟨q, 4, none⟩ (.int .i64 0)).setCell ⟨q, 5, none⟩ (.int .i64 550))) (by simp [execOp, dq, d5, go_sem, c0q, c1q, c2q, c3q, c4q, c5q, cfq]) ((((((((Below.refl _ W).setCell hB _).setCell hB _).setCell hB _).setCell hB _).setCell hB _).setCell hB _)) ⟨q, congrArg (fun x => [x]) e1, hB, acc_set6 hacc _ _ _ _ _ _⟩
            case send =>
              intro val Z8 hE hzz hv
              obtain ⟨r0, r1, r2, r3, r4, r5, r6, r7, r8, r9, r10, r11, r12, -⟩ := hv
              have q8 : val 8 = .agg #[.int .i64 550, .int .i64 0, .int .i64 0, .int .i64 0, .int .i64 0, .int .i64 550] := r8
              have q12 : val 12 = .int .i64 0 := r12
              obtain ⟨ud, hq10, hudB, hudA⟩ : ∃ q, [val 10] = [.pointer (some ⟨q, 0, none⟩)] ∧ Z7.heap.size ≤ q ∧ AccAt Z8 q ⟨550, 0, 0, 0, 0, 550⟩ := r11
              have q10 := (List.cons.inj hq10).1
              have UD := Lib.hid hudA
              replace HB1 := Lib.hid (HB1.out.ext hE)
              replace HB2 := Lib.hid (HB2.out.ext hE)
              replace HI1 := Lib.hid (HI1.out.ext hE)
              replace HI2 := Lib.hid (HI2.out.ext hE)
              replace UA := Lib.hid (UA.out.ext hE)
              replace UB := Lib.hid (UB.out.ext hE)
              replace UC := Lib.hid (UC.out.ext hE)
              replace HW := Lib.hid (HW.out.trans' hE)
              simp only [putD, q8, q12, q10]
              go_frame
              clear hE hzz k0 k1 k2 k3 k4 k5 k6 k7 hzk r0 r1 r2 r3 r4 r5 r6 r7 r8 r9 r10 r12 hq10 hudB hudA q8 q12 q10
              go_upto_region 9 with (fail)
              have hbkF := HB2.out
              have k0 := hbkF.c0
              have k1 := hbkF.c1
              have k2 := hbkF.c2
              have k3 := hbkF.c3
              have k4 := hbkF.c4
              have k5 := hbkF.c5
              have k6 := hbkF.c6
              have k7 := hbkF.c7
              have hzk := hbkF.lt
              clear hbkF
              refine wp_region_rove (Z8.heap.size) (Nat.le_refl _)
                [sqV (.agg #[.int .i64 B3.kd, .int .i64 B3.n, .slice (some ⟨g3, 0, none⟩) B3.bets.length 2, .slice none B3.scr.length 0, .bool B3.fav, .int .i64 B3.car, .int .i64 B3.duty, .int .i64 B3.step]),
                 sqW (fun v W => PL [0, 1] v W) (fun _ _ _ h e => PL.ext e h),
                 sqW (fun v W => PL [2] v W) (fun _ _ _ h e => PL.ext e h),
                 sqW (fun v W => PF [[0, 1], [2]] v W) (fun _ _ _ h e => PF.ext e h),
                 sqW (fun v W => PF [[0, 1], [2]] v W) (fun _ _ _ h e => PF.ext e h),
                 sqW (fun v W => PT 2 0 ([(0, 1), (1, 0)].map twoRow) v W) (fun _ _ _ h e => PT.ext e h),
                 sqW (fun v W => PT 2 0 ([(0, 1), (1, 0)].map twoRow) v W) (fun _ _ _ h e => PT.ext e h),
                 sqW (fun v W => IsRows W 2 v ([(0, 1), (1, 0)].map twoRow)) (fun _ _ _ h e => IsRows.ext e h),
                 sqV (.int .i64 0),
                 sqW (fun v W => IsRows W 2 v ([(0, 1), (1, 0)].map twoRow)) (fun _ _ _ h e => IsRows.ext e h),
                 sqV (.int .i64 0)]
                [true, false, false, false, false, false, false, false, true, false, true] [false, false, false, false, false, false, false, false, false, false, false] [true, true, true, true, true, true, true, true, true, true, true] [true, true, true, true, true, true, true, true, true, true, true]
                (by kernel_rfl) (by kernel_rfl) (by decide +kernel) (by decide +kernel) (by decide +kernel) rfl ⟨rfl, rfl⟩ ⟨?s0, ?s1, ?s2, ?s3, ?s4, ?s5, ?s6, ?s7, ?s8, ?s9, ?s10, trivial⟩ [some 91, some 92, some 93, some 94, some 95, some 96, some 90, some 97, some 98, some 17, some 18] rfl rfl ?send
              case s0 =>
                intro val ρ W hE hz hd hA hx
                have o0 : ρ (.tmp 2) = .pointer (some ⟨q1 + 1, 0, none⟩) := hA.old 2 (by decide)
                have f_k0 := cell_below hE (by simp only; omega) k0
                have f_k1 := cell_below hE (by simp only; omega) k1
                have f_k2 := cell_below hE (by simp only; omega) k2
                have f_k3 := cell_below hE (by simp only; omega) k3
                have f_k4 := cell_below hE (by simp only; omega) k4
                have f_k5 := cell_below hE (by simp only; omega) k5
                have f_k6 := cell_below hE (by simp only; omega) k6
                have f_k7 := cell_below hE (by simp only; omega) k7
                clear hd
                exact runq_val (W' := W) (by simp [execOp, o0, f_k0, f_k1, f_k2, f_k3, f_k4, f_k5, f_k6, f_k7, go_sem]) (Below.refl _ _) rfl
              case s10 =>
                intro val ρ W hE hz hd hA hx
                have d8 : ρ (.tmp 98) = .int .i64 0 := (hA.dep 8 (by decide) 98 rfl).trans (hd 8 (by decide))
                clear hd
                exact runq_val (W' := W) (by simp [execOp, d8, go_sem]) (Below.refl _ _) rfl
              case s1 =>
                intro val ρ W hE hz hd hA hx
                clear hd
                exact runq_val (by simp [execOp, hA.const, go_sem]; exact ⟨rfl, rfl⟩) (by exact (by repeat (first | exact Below.refl _ _ | refine Ext.al ?_ _ | refine Ext.dr ?_ | refine Ext.drN ?_ _ | refine Ext.gr ?_ _ | refine Ext.set ?_ (by simp) _ | (refine Ext.trans' ?_ (by assumption))))) ⟨_, rfl, pl_new _ [0, 1] _ _ _ rfl rfl (by decide)⟩
              case s2 =>
                intro val ρ W hE hz hd hA hx
                clear hd
                exact runq_val (by simp [execOp, hA.const, go_sem]; exact ⟨rfl, rfl⟩) (by exact (by repeat (first | exact Below.refl _ _ | refine Ext.al ?_ _ | refine Ext.dr ?_ | refine Ext.drN ?_ _ | refine Ext.gr ?_ _ | refine Ext.set ?_ (by simp) _ | (refine Ext.trans' ?_ (by assumption))))) ⟨_, rfl, pl_new _ [2] _ _ _ rfl rfl (by decide)⟩
              case s3 =>
                intro val ρ W hE hz hd hA hx
                obtain ⟨b0, e0, i0⟩ : PL [0, 1] (val 1) W := hd 1 (by decide)
                have d0 : ρ (.tmp 92) = .slice (some ⟨b0, 0, none⟩) 2 2 := (hA.dep 1 (by decide) 92 rfl).trans e0
                rw [e0] at i0
                obtain ⟨b1, e1, i1⟩ : PL [2] (val 2) W := hd 2 (by decide)
                have d1 : ρ (.tmp 93) = .slice (some ⟨b1, 0, none⟩) 1 1 := (hA.dep 2 (by decide) 93 rfl).trans e1
                rw [e1] at i1
                clear hd
                refine runq_val (by simp [execOp, d0, d1, go_sem]; exact ⟨rfl, rfl⟩) (by exact (by repeat (first | exact Below.refl _ _ | refine Ext.al ?_ _ | refine Ext.dr ?_ | refine Ext.drN ?_ _ | refine Ext.gr ?_ _ | refine Ext.set ?_ (by simp) _ | (refine Ext.trans' ?_ (by assumption))))) ⟨_, _, _, [(.slice (some ⟨b0, 0, none⟩) 2 2, [0, 1]), (.slice (some ⟨b1, 0, none⟩) 1 1, [2])], rfl, rfl, fin_new _ _ _ _ _ rfl rfl ?_ (by simp)⟩
                intro x hx
                simp only [List.mem_cons, List.not_mem_nil, or_false] at hx
                rcases hx with rfl | rfl
                · exact i0
                · exact i1
              case s4 =>
                intro val ρ W hE hz hd hA hx
                obtain ⟨a, n, c, ps, h1, h2, h3⟩ : PF [[0, 1], [2]] (val 3) W := hd 3 (by decide)
                rw [h1] at h3
                have d1 : ρ (.tmp 94) = .slice a n c := (hA.dep 3 (by decide) 94 rfl).trans h1
                clear hd
                refine runq_call 53 _ _ rfl #[.slice a n c] (hA.func _) (by simp [d1]) (fun args W => Try.call53 args W) ((inL_any a n c W).mono ?_)
                rintro e w' ⟨rfl, hb⟩
                exact ⟨_, rfl, hb, a, n, c, ps, rfl, h2, h3.ext hb⟩
              case s5 =>
                intro val ρ W hE hz hd hA hx
                obtain ⟨a, n, c, ps, h1, h2, h3⟩ : PF [[0, 1], [2]] (val 4) W := hd 4 (by decide)
                rw [h1] at h3
                have d1 : ρ (.tmp 95) = .slice a n c := (hA.dep 4 (by decide) 95 rfl).trans h1
                have d0 : ρ (.tmp 91) = .agg #[.int .i64 B3.kd, .int .i64 B3.n, .slice (some ⟨g3, 0, none⟩) B3.bets.length 2, .slice none B3.scr.length 0, .bool B3.fav, .int .i64 B3.car, .int .i64 B3.duty, .int .i64 B3.step] := (hA.dep 0 (by decide) 91 rfl).trans (hd 0 (by decide))
                clear hd
                refine runq_call 27 _ _ rfl #[.agg #[.int .i64 B3.kd, .int .i64 B3.n, .slice (some ⟨g3, 0, none⟩) B3.bets.length 2, .slice none B3.scr.length 0, .bool B3.fav, .int .i64 B3.car, .int .i64 B3.duty, .int .i64 B3.step], .slice a n c] (hA.func _) (by simp [d0, d1]) (fun args W => Try.call27 args W) ((winnersP_any ps _ B3 (some ⟨g3, 0, none⟩) none 2 0 W (HI2.out.ext hE) h3).mono ?_)
                rintro e w' ⟨hb, u, rfl, hr⟩
                rw [h2, V8b.out] at hr
                exact ⟨_, rfl, hb, u, by rw [h2, V8a.out], hr⟩
              case s6 =>
                intro val ρ W hE hz hd hA hx
                have h : PT 2 0 ([(0, 1), (1, 0)].map twoRow) (val 5) W := hd 5 (by decide)
                have d1 : ρ (.tmp 96) = val 5 := hA.dep 5 (by decide) 96 rfl
                clear hd
                exact runq_val (W' := W) (by simp [execOp, d1, go_sem]) (Below.refl _ _) h
              case s7 =>
                intro val ρ W hE hz hd hA hx
                obtain ⟨u, h1, h2⟩ : PT 2 0 ([(0, 1), (1, 0)].map twoRow) (val 6) W := hd 6 (by decide)
                have d1 : ρ (.tmp 90) = .tuple #[u, .int .i64 0] := (hA.dep 6 (by decide) 90 rfl).trans h1
                clear hd
                exact runq_val (W' := W) (by simp [execOp, d1, go_sem]) (Below.refl _ _) h2
              case s8 =>
                intro val ρ W hE hz hd hA hx
                obtain ⟨u, h1, h2⟩ : PT 2 0 ([(0, 1), (1, 0)].map twoRow) (val 6) W := hd 6 (by decide)
                have d1 : ρ (.tmp 90) = .tuple #[u, .int .i64 0] := (hA.dep 6 (by decide) 90 rfl).trans h1
                clear hd
                exact runq_val (W' := W) (by simp [execOp, d1, go_sem]) (Below.refl _ _) rfl
              case s9 =>
                intro val ρ W hE hz hd hA hx
                have h : IsRows W 2 (val 7) ([(0, 1), (1, 0)].map twoRow) := hd 7 (by decide)
                have d1 : ρ (.tmp 97) = val 7 := hA.dep 7 (by decide) 97 rfl
                clear hd
                exact runq_val (W' := W) (by simp [execOp, d1, go_sem]) (Below.refl _ _) h
              case send =>
                intro val Z9 hE hzz hv
                obtain ⟨r0, r1, r2, r3, r4, r5, r6, r7, r8, r9, r10, -⟩ := hv
                have r9' : IsRows Z9 2 (val 9) ([(0, 1), (1, 0)].map twoRow) := r9
                obtain ⟨uea, uec, q9, -, -, -⟩ := twos_spec r9'
                rw [q9] at r9'
                have UE := Lib.hid r9'
                have q10 : val 10 = .int .i64 0 := r10
                replace HB1 := Lib.hid (HB1.out.ext hE)
                replace HB2 := Lib.hid (HB2.out.ext hE)
                replace HI1 := Lib.hid (HI1.out.ext hE)
                replace HI2 := Lib.hid (HI2.out.ext hE)
                replace UA := Lib.hid (UA.out.ext hE)
                replace UB := Lib.hid (UB.out.ext hE)
                replace UC := Lib.hid (UC.out.ext hE)
                replace UD := Lib.hid (UD.out.ext hE)
                replace HW := Lib.hid (HW.out.trans' hE)
                simp only [putD, q9, q10]
                go_frame
                clear hE hzz k0 k1 k2 k3 k4 k5 k6 k7 hzk r0 r1 r2 r3 r4 r5 r6 r7 r8 r9 r10 q9 q10 r9'
                go_upto_region 10 with (fail)
                have hbkF := HB1.out
                have k0 := hbkF.c0
                have k1 := hbkF.c1
                have k2 := hbkF.c2
                have k3 := hbkF.c3
                have k4 := hbkF.c4
                have k5 := hbkF.c5
                have k6 := hbkF.c6
                have k7 := hbkF.c7
                have hzk := hbkF.lt
                clear hbkF
                go_wp2_with fail
                refine (scratch_any 0 B1 (some ⟨g1, 0, none⟩) none 3 0 _ HI1.out).mono ?_
                rintro e Z10 ⟨hE4, ⟨hne, -⟩ | ⟨-, ba5, sa5, bc5, sc5, rfl, hI4⟩⟩
                · exact absurd VS5.out.1 hne
                rw [VS5.out.2] at hI4 ⊢
                simp only [bookV]
                clear k0 k1 k2 k3 k4 k5 k6 k7 hzk
                replace HB1 := Lib.hid (HB1.out.ext hE4)
                replace HB2 := Lib.hid (HB2.out.ext hE4)
                replace HI1 := Lib.hid (HI1.out.ext hE4)
                replace HI2 := Lib.hid (HI2.out.ext hE4)
                replace UA := Lib.hid (UA.out.ext hE4)
                replace UB := Lib.hid (UB.out.ext hE4)
                replace UC := Lib.hid (UC.out.ext hE4)
                replace UD := Lib.hid (UD.out.ext hE4)
                replace UE := Lib.hid (UE.out.ext hE4)
                replace HW := Lib.hid (HW.out.trans' hE4)
                clear hE4
                go_upto_region 11 with (fail)
                obtain ⟨Z11, hZ5⟩ : ∃ Z5, Z5 = Z10.alloc (.cells #[.int .i64 B5.kd, .int .i64 B5.n, .slice ba5 B5.bets.length bc5, .slice sa5 B5.scr.length sc5, .bool B5.fav, .int .i64 B5.car, .int .i64 B5.duty, .int .i64 B5.step] 25) := ⟨_, rfl⟩
                rw [← hZ5]
                obtain ⟨q5, hq4⟩ : ∃ q4, q4 = Z10.heap.size := ⟨_, rfl⟩
                rw [← hq4]
                have hb5 : BookAt Z11 q5 B5 ba5 bc5 sa5 sc5 := by rw [hZ5, hq4]; exact ⟨by simp [go_sem], by simp [go_sem], by simp [go_sem], by simp [go_sem], by simp [go_sem], by simp [go_sem], by simp [go_sem], by simp [go_sem]⟩
                have hE45 : Ext Z10 Z11 := by rw [hZ5]; exact (by repeat (first | exact Below.refl _ _ | refine Ext.al ?_ _ | refine Ext.dr ?_ | refine Ext.drN ?_ _ | refine Ext.gr ?_ _ | refine Ext.set ?_ (by simp) _ | (refine Ext.trans' ?_ (by assumption))))
                have HB5 := Lib.hid hb5
                have HI5 := Lib.hid (hI4.ext hE45)
                replace HB1 := Lib.hid (HB1.out.ext hE45)
                replace HB2 := Lib.hid (HB2.out.ext hE45)
                replace HI1 := Lib.hid (HI1.out.ext hE45)
                replace HI2 := Lib.hid (HI2.out.ext hE45)
                replace UA := Lib.hid (UA.out.ext hE45)
                replace UB := Lib.hid (UB.out.ext hE45)
                replace UC := Lib.hid (UC.out.ext hE45)
                replace UD := Lib.hid (UD.out.ext hE45)
                replace UE := Lib.hid (UE.out.ext hE45)
                replace HW := Lib.hid (HW.out.trans' hE45)
                clear hE45 hZ5 hq4 hb5 hI4
                have hbkF := HB5.out
                have k0 := hbkF.c0
                have k1 := hbkF.c1
                have k2 := hbkF.c2
                have k3 := hbkF.c3
                have k4 := hbkF.c4
                have k5 := hbkF.c5
                have k6 := hbkF.c6
                have k7 := hbkF.c7
                have hzk := hbkF.lt
                clear hbkF
                go_wp2_with fail
                refine (favourite_any B5 ba5 sa5 bc5 sc5 _ HI5.out).mono ?_
                rintro e Z12 ⟨rfl, hE12⟩
                rw [V10.out, V10b.out]
                clear k0 k1 k2 k3 k4 k5 k6 k7 hzk
                replace HB1 := Lib.hid (HB1.out.ext hE12)
                replace HB2 := Lib.hid (HB2.out.ext hE12)
                replace HI1 := Lib.hid (HI1.out.ext hE12)
                replace HI2 := Lib.hid (HI2.out.ext hE12)
                replace UA := Lib.hid (UA.out.ext hE12)
                replace UB := Lib.hid (UB.out.ext hE12)
                replace UC := Lib.hid (UC.out.ext hE12)
                replace UD := Lib.hid (UD.out.ext hE12)
                replace UE := Lib.hid (UE.out.ext hE12)
                replace HB5 := Lib.hid (HB5.out.ext hE12)
                replace HI5 := Lib.hid (HI5.out.ext hE12)
                replace HW := Lib.hid (HW.out.trans' hE12)
                clear hE12
                have hbkF := HB1.out
                have k0 := hbkF.c0
                have k1 := hbkF.c1
                have k2 := hbkF.c2
                have k3 := hbkF.c3
                have k4 := hbkF.c4
                have k5 := hbkF.c5
                have k6 := hbkF.c6
                have k7 := hbkF.c7
                have hzk := hbkF.lt
                clear hbkF
                go_wp2_with fail
                refine (scratch_any 1 B1 (some ⟨g1, 0, none⟩) none 3 0 _ HI1.out).mono ?_
                rintro e Z13 ⟨hE4, ⟨hne, -⟩ | ⟨-, ba6, sa6, bc6, sc6, rfl, hI4⟩⟩
                · exact absurd VS6.out.1 hne
                rw [VS6.out.2] at hI4 ⊢
                simp only [bookV]
                clear k0 k1 k2 k3 k4 k5 k6 k7 hzk
                replace HB1 := Lib.hid (HB1.out.ext hE4)
                replace HB2 := Lib.hid (HB2.out.ext hE4)
                replace HI1 := Lib.hid (HI1.out.ext hE4)
                replace HI2 := Lib.hid (HI2.out.ext hE4)
                replace UA := Lib.hid (UA.out.ext hE4)
                replace UB := Lib.hid (UB.out.ext hE4)
                replace UC := Lib.hid (UC.out.ext hE4)
                replace UD := Lib.hid (UD.out.ext hE4)
                replace UE := Lib.hid (UE.out.ext hE4)
                replace HW := Lib.hid (HW.out.trans' hE4)
                clear hE4
                go_upto_region 13 with (fail)
                obtain ⟨Z14, hZ5⟩ : ∃ Z5, Z5 = Z13.alloc (.cells #[.int .i64 B6.kd, .int .i64 B6.n, .slice ba6 B6.bets.length bc6, .slice sa6 B6.scr.length sc6, .bool B6.fav, .int .i64 B6.car, .int .i64 B6.duty, .int .i64 B6.step] 25) := ⟨_, rfl⟩
                rw [← hZ5]
                obtain ⟨q6, hq4⟩ : ∃ q4, q4 = Z13.heap.size := ⟨_, rfl⟩
                rw [← hq4]
                have hb5 : BookAt Z14 q6 B6 ba6 bc6 sa6 sc6 := by rw [hZ5, hq4]; exact ⟨by simp [go_sem], by simp [go_sem], by simp [go_sem], by simp [go_sem], by simp [go_sem], by simp [go_sem], by simp [go_sem], by simp [go_sem]⟩
                have hE45 : Ext Z13 Z14 := by rw [hZ5]; exact (by repeat (first | exact Below.refl _ _ | refine Ext.al ?_ _ | refine Ext.dr ?_ | refine Ext.drN ?_ _ | refine Ext.gr ?_ _ | refine Ext.set ?_ (by simp) _ | (refine Ext.trans' ?_ (by assumption))))
                have HB6 := Lib.hid hb5
                have HI6 := Lib.hid (hI4.ext hE45)
                replace HB1 := Lib.hid (HB1.out.ext hE45)
                replace HB2 := Lib.hid (HB2.out.ext hE45)
                replace HI1 := Lib.hid (HI1.out.ext hE45)
                replace HI2 := Lib.hid (HI2.out.ext hE45)
                replace UA := Lib.hid (UA.out.ext hE45)
                replace UB := Lib.hid (UB.out.ext hE45)
                replace UC := Lib.hid (UC.out.ext hE45)
                replace UD := Lib.hid (UD.out.ext hE45)
                replace UE := Lib.hid (UE.out.ext hE45)
                replace HW := Lib.hid (HW.out.trans' hE45)
                clear hE45 hZ5 hq4 hb5 hI4
                have hbkF := HB6.out
                have k0 := hbkF.c0
                have k1 := hbkF.c1
                have k2 := hbkF.c2
                have k3 := hbkF.c3
                have k4 := hbkF.c4
                have k5 := hbkF.c5
                have k6 := hbkF.c6
                have k7 := hbkF.c7
                have hzk := hbkF.lt
                clear hbkF
                go_wp2_with fail
                refine (scratch_any 0 B6 ba6 sa6 bc6 sc6 _ HI6.out).mono ?_
                rintro e Z15 ⟨hE15, ⟨-, rfl⟩ | ⟨h0, -⟩⟩
                rotate_left
                · rw [VS7.out] at h0; cases h0
                rw [VS7.out]
                simp only [noBook]
                clear k0 k1 k2 k3 k4 k5 k6 k7 hzk
                replace HB1 := Lib.hid (HB1.out.ext hE15)
                replace HB2 := Lib.hid (HB2.out.ext hE15)
                replace HI1 := Lib.hid (HI1.out.ext hE15)
                replace HI2 := Lib.hid (HI2.out.ext hE15)
                replace UA := Lib.hid (UA.out.ext hE15)
                replace UB := Lib.hid (UB.out.ext hE15)
                replace UC := Lib.hid (UC.out.ext hE15)
                replace UD := Lib.hid (UD.out.ext hE15)
                replace UE := Lib.hid (UE.out.ext hE15)
                replace HB6 := Lib.hid (HB6.out.ext hE15)
                replace HI6 := Lib.hid (HI6.out.ext hE15)
                replace HW := Lib.hid (HW.out.trans' hE15)
                clear hE15
                have aD0 := UD.out.c0
                have aD1 := UD.out.c1
                have aD2 := UD.out.c2
                have aD3 := UD.out.c3
                have aD4 := UD.out.c4
                have aD5 := UD.out.c5
                have zD := UD.out.lt
                have qD := fun W => acc_eql ⟨550, 0, 0, 0, 0, 550⟩ W
                simp only [accV, accC] at aD0 aD1 aD2 aD3 aD4 aD5 qD




                go_wp2_with fail
                refine callW (W0 := Z15) (g := ⟨Z15, Below.refl _ _⟩) (by exact (by repeat (first | exact Below.refl _ _ | refine Ext.al ?_ _ | refine Ext.dr ?_ | refine Ext.drN ?_ _ | refine Ext.gr ?_ _ | refine Ext.set ?_ (by simp) _ | (refine Ext.trans' ?_ (by assumption))))) (divL_any 1 (-1) 300 _) fun g1 hgr => ?_
                clear hgr
                go_wp2_with fail
                refine callW (W0 := Z15) (g := g1) (by exact (by repeat (first | exact Below.refl _ _ | refine Ext.al ?_ _ | refine Ext.dr ?_ | refine Ext.drN ?_ _ | refine Ext.gr ?_ _ | refine Ext.set ?_ (by simp) _ | (refine Ext.trans' ?_ (by assumption))))) (dvdsL_any [((1, -1), 300)] [((1, -1), 300)] _ _ _ (UA.out.ext (by exact (by repeat (first | exact Below.refl _ _ | refine Ext.al ?_ _ | refine Ext.dr ?_ | refine Ext.drN ?_ _ | refine Ext.gr ?_ _ | refine Ext.set ?_ (by simp) _ | (refine Ext.trans' ?_ (by assumption)))))) (rows_new _ 3 1 _ _ _ _ rfl (by simp [divRow]) (by simp [divRow]) rfl (by omega))) fun g2 hgr => ?_
                clear hgr
                rw [show decide (([((1, -1), 300)] : List Dvd) = [((1, -1), 300)]) = true from rfl]
                go_wp2_with fail
                refine callW (W0 := Z15) (g := g2) (by exact (by repeat (first | exact Below.refl _ _ | refine Ext.al ?_ _ | refine Ext.dr ?_ | refine Ext.drN ?_ _ | refine Ext.gr ?_ _ | refine Ext.set ?_ (by simp) _ | (refine Ext.trans' ?_ (by assumption))))) (divL_any 1 (-1) 240 _) fun g3 hgr => ?_
                clear hgr
                go_wp2_with fail
                refine callW (W0 := Z15) (g := g3) (by exact (by repeat (first | exact Below.refl _ _ | refine Ext.al ?_ _ | refine Ext.dr ?_ | refine Ext.drN ?_ _ | refine Ext.gr ?_ _ | refine Ext.set ?_ (by simp) _ | (refine Ext.trans' ?_ (by assumption))))) (dvdsL_any [((1, -1), 240)] [((1, -1), 240)] _ _ _ (UB.out.ext (by exact (by repeat (first | exact Below.refl _ _ | refine Ext.al ?_ _ | refine Ext.dr ?_ | refine Ext.drN ?_ _ | refine Ext.gr ?_ _ | refine Ext.set ?_ (by simp) _ | (refine Ext.trans' ?_ (by assumption)))))) (rows_new _ 3 1 _ _ _ _ rfl (by simp [divRow]) (by simp [divRow]) rfl (by omega))) fun g4 hgr => ?_
                clear hgr
                rw [show decide (([((1, -1), 240)] : List Dvd) = [((1, -1), 240)]) = true from rfl]
                go_wp2_with fail
                refine callW (W0 := Z15) (g := g4) (by exact (by repeat (first | exact Below.refl _ _ | refine Ext.al ?_ _ | refine Ext.dr ?_ | refine Ext.drN ?_ _ | refine Ext.gr ?_ _ | refine Ext.set ?_ (by simp) _ | (refine Ext.trans' ?_ (by assumption))))) (divL_any 0 1 130 _) fun g5 hgr => ?_
                clear hgr
                go_wp2_with fail
                refine callW (W0 := Z15) (g := g5) (by exact (by repeat (first | exact Below.refl _ _ | refine Ext.al ?_ _ | refine Ext.dr ?_ | refine Ext.drN ?_ _ | refine Ext.gr ?_ _ | refine Ext.set ?_ (by simp) _ | (refine Ext.trans' ?_ (by assumption))))) (divL_any 1 0 90 _) fun g6 hgr => ?_
                clear hgr
                go_wp2_with fail
                refine callW (W0 := Z15) (g := g6) (by exact (by repeat (first | exact Below.refl _ _ | refine Ext.al ?_ _ | refine Ext.dr ?_ | refine Ext.drN ?_ _ | refine Ext.gr ?_ _ | refine Ext.set ?_ (by simp) _ | (refine Ext.trans' ?_ (by assumption))))) (dvdsL_any [((0, 1), 130), ((1, 0), 90)] [((0, 1), 130), ((1, 0), 90)] _ _ _ (UC.out.ext (by exact (by repeat (first | exact Below.refl _ _ | refine Ext.al ?_ _ | refine Ext.dr ?_ | refine Ext.drN ?_ _ | refine Ext.gr ?_ _ | refine Ext.set ?_ (by simp) _ | (refine Ext.trans' ?_ (by assumption)))))) (rows_new _ 3 2 _ _ _ _ rfl (by simp [divRow]) (by simp [divRow]) rfl (by omega))) fun g7 hgr => ?_
                clear hgr
                rw [show decide (([((0, 1), 130), ((1, 0), 90)] : List Dvd) = [((0, 1), 130), ((1, 0), 90)]) = true from rfl]
                go_wp2_with fail
                refine callW (W0 := Z15) (g := g7) (by exact (by repeat (first | exact Below.refl _ _ | refine Ext.al ?_ _ | refine Ext.dr ?_ | refine Ext.drN ?_ _ | refine Ext.gr ?_ _ | refine Ext.set ?_ (by simp) _ | (refine Ext.trans' ?_ (by assumption))))) (twosL_any [(0, 1), (1, 0)] [(0, 1), (1, 0)] _ _ _ (UE.out.ext (by exact (by repeat (first | exact Below.refl _ _ | refine Ext.al ?_ _ | refine Ext.dr ?_ | refine Ext.drN ?_ _ | refine Ext.gr ?_ _ | refine Ext.set ?_ (by simp) _ | (refine Ext.trans' ?_ (by assumption)))))) (rows_new _ 2 2 _ _ _ _ rfl (by simp [twoRow]) (by simp [twoRow]) rfl (by omega))) fun g8 hgr => ?_
                clear hgr
                rw [show decide (([(0, 1), (1, 0)] : List Spt) = [(0, 1), (1, 0)]) = true from rfl]
                go_wp2_with fail
                refine callW (W0 := Z15) (g := g8) (by exact (by repeat (first | exact Below.refl _ _ | refine Ext.al ?_ _ | refine Ext.dr ?_ | refine Ext.drN ?_ _ | refine Ext.gr ?_ _ | refine Ext.set ?_ (by simp) _ | (refine Ext.trans' ?_ (by assumption))))) (worksL_any _) fun g9 hgr => ?_
                clear hgr
                go_wp2_with fail
                go_ret
                exact ⟨rfl, HW.out.trans' (grow_below Z15 _)⟩
end Go.Proofs.Ytphajlldghcnnaa
namespace Go.Proofs.Ytphajlldghcnnaa
open Go.RowKit
open Go.ChangeShapes Go.WideShapes Go.ChangeAt in
set_option maxRecDepth 100000 in
theorem poolKnown_lifted (os : Os) (started : os.Started) (H : Type) (enc : TypeId × Value → H) :
    ReturnsInHanded {} Try.checked os 16 .any (Rows.poolKnownSpec.pre6 enc Try.prog Try.f16 Rows.poolKnownRow.domain false) (Rows.poolKnownSpec.post enc Try.prog Try.f16 false true false false) := by
  refine returnsInHanded_of_change (C := Try.checked) own started (by kernel_rfl) Try.func16
    (ChangeSpec.witness6 (enc := enc) (C := Try.checked) false ⟨#[], #[], []⟩ 8 (by kernel_rfl) (by kernel_rfl) (by kernel_rfl) (by kernel_rfl)) ?_
  intro W base args ds gs before hval0 hW hcnd _
  have hval : ∀ (j : Nat) t v, Try.f16.params[j]? = some t → args[j]? = some v → Value.okWide Try.prog W .any base t v := hval0
  have hW' := hW
  obtain ⟨p, q, hA0, hV, rfl, hfz, hnd⟩ := hW
  have hA : DataW.TrodAll enc Try.prog W 0 (fun _ => true) true Try.f16.params.toList args.toList ds p := hA0
  rw [Try.params16] at hA hval
  obtain ⟨rfl, rfl, rfl⟩ := trodAll_none hA
  clear hA0 hval0
  refine (poolKnown_any  W ).mono fun e W' ⟨he, hb⟩ => ?_
  subst he
  exact ⟨_, rfl, law_post laidOut (tb := 4) (hts_of (by kernel_rfl)) (by kernel_rfl) Try.underlying4 hW' rfl rfl hb⟩
theorem poolKnown_holds : Rows.PoolKnownSaid :=
  OpenClaim.holds_of_wide 16 Try.f16 rfl rfl rfl rfl rfl rfl rfl ⟨rfl, rfl, rfl, rfl, rfl⟩ rfl rfl rfl rfl rfl (by kernel_rfl) Try.func16 (by kernel_rfl)
    (of_decide_eq_true (by kernel_rfl)) (by unfold Func.isWrapper; first | (rw [if_pos (by decide +kernel)]; kernel_rfl) | (rw [if_neg (by decide +kernel)]; exact ⟨rfl, rfl⟩))
    (fun os started H enc _ => poolKnown_lifted os started H enc)
end Go.Proofs.Ytphajlldghcnnaa
