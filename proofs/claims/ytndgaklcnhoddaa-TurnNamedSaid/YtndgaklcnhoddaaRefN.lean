/-
  The walks of the reference's CircleError, DoomError, Count, Leads and Next.
-/
import Derived.Test.YtndgaklcnhoddaaRc
import Derived.Test.YtndgaklcnhoddaaWe
import Derived.Test.YtndgaklcnhoddaaWf
import Derived.Test.YtndgaklcnhoddaaWd
namespace Go.Proofs.Ytndgaklcnhoddaa
open Go.RowKit Go.Shelf
theorem rkN_num {ks s : List Int} (v : TVal ks) (hst : isSt ks s = true) : rkN ks (numS ks s) = rowOf (nxS ks) s := by
  unfold rkN; rw [st_num v.nn hst]
theorem NumB.zero {W : World} {g : Nat} {ks : List Int} (h : NumB W g ks.length (fun _ => 0)) (h5 : ks.length ≤ 1000) : IsInts W .i64 (.slice (some ⟨g, 0, none⟩) ks.length ks.length) (zeroS ks) :=
  (h.congr fun j _ => (zeroS_at ks j).symm).intsC (zeroS_len ks).symm (Nat.le_refl _) (by omega)
set_option maxRecDepth 100000 in
set_option maxHeartbeats 2000000 in
theorem circleErrR_any (ks : List Int) (kv : Value) (w : World) (hv : IsInts w .i64 kv ks) :
    Calls Try.prog 32 #[.agg #[kv]] w fun e W => e = .returned (.int .i64 (circleErr ks)) ∧ Ext w W := by
  obtain ⟨sa, cap, rfl, h1, h2, -⟩ := hv.spec
  have HV := Lib.hid hv
  clear hv
  go_enter Try.func32, Try.ntmps32
  go_upto_region 1 with (fail)
  obtain ⟨W0, hW0⟩ : ∃ W0, W0 = w.alloc (.cells #[.slice sa ks.length cap] 24) := ⟨_, rfl⟩
  have hE : Ext w W0 := by rw [hW0]; exact (by repeat (first | exact Below.refl _ _ | refine Ext.al ?_ _ | refine Ext.dr ?_ | refine Ext.drN ?_ _ | refine Ext.gr ?_ _ | refine Ext.set ?_ (by simp) _ | (refine Ext.trans' ?_ (by assumption))))
  have k0 : W0.cell? ⟨w.heap.size, 0, none⟩ = some (.slice sa ks.length cap) := by rw [hW0]; simp [go_sem]
  have hz : w.heap.size < W0.heap.size := World.block_lt_of_cell? _ _ k0
  have HS := Lib.hid (HV.out.ext hE)
  have HW := Lib.hid hE
  rw [← hW0]
  clear hW0 HV
  clear hE
  obtain ⟨er, her⟩ : ∃ er, er = tchk ks := ⟨_, rfl⟩
  have c1 := fun W h1 => checkHallR_any ks (.slice sa ks.length cap) W h1
  simp only [← her] at c1
  have C1 := Lib.hid c1
  have HER := Lib.hid her
  clear c1 her



  by_cases hc : er = 0
  rotate_left
  · have e1 : (er == 0) = false := by simpa using hc
    have e2 : (er != 0) = true := by simpa using hc
    have HC := Lib.hid hc
    clear hc

    go_wp2_with fail
    refine callW (W0 := W0) (g := ⟨W0, Below.refl _ _⟩) (by exact (by repeat (first | exact Below.refl _ _ | refine Ext.al ?_ _ | refine Ext.dr ?_ | refine Ext.drN ?_ _ | refine Ext.gr ?_ _ | refine Ext.set ?_ (by simp) _ | (refine Ext.trans' ?_ (by assumption))))) (C1.out _ (HS.out.ext (by exact (by repeat (first | exact Below.refl _ _ | refine Ext.al ?_ _ | refine Ext.dr ?_ | refine Ext.drN ?_ _ | refine Ext.gr ?_ _ | refine Ext.set ?_ (by simp) _ | (refine Ext.trans' ?_ (by assumption))))))) fun g1 hgr => ?_
    clear hgr
    go_wp2_with fail
    refine callW (W0 := W0) (g := g1) (by exact (by repeat (first | exact Below.refl _ _ | refine Ext.al ?_ _ | refine Ext.dr ?_ | refine Ext.drN ?_ _ | refine Ext.gr ?_ _ | refine Ext.set ?_ (by simp) _ | (refine Ext.trans' ?_ (by assumption))))) (C1.out _ (HS.out.ext (by exact (by repeat (first | exact Below.refl _ _ | refine Ext.al ?_ _ | refine Ext.dr ?_ | refine Ext.drN ?_ _ | refine Ext.gr ?_ _ | refine Ext.set ?_ (by simp) _ | (refine Ext.trans' ?_ (by assumption))))))) fun g2 hgr => ?_
    clear hgr
    go_wp2_with fail
    go_ret
    exact ⟨ret_int (by unfold circleErr; rw [if_pos (by rw [← HER.out]; exact HC.out), HER.out]), HW.out.trans' (grow_below W0 _)⟩

  have HC := Lib.hid (HER.out.symm.trans hc)
  subst hc
  have V := Lib.hid (tval_of HC.out)
  have n1 := V.out.n1
  have n5 := V.out.n5
  go_wp2_with fail
  refine callW (W0 := W0) (g := ⟨W0, Below.refl _ _⟩) (by exact (by repeat (first | exact Below.refl _ _ | refine Ext.al ?_ _ | refine Ext.dr ?_ | refine Ext.drN ?_ _ | refine Ext.gr ?_ _ | refine Ext.set ?_ (by simp) _ | (refine Ext.trans' ?_ (by assumption))))) (C1.out _ (HS.out.ext (by exact (by repeat (first | exact Below.refl _ _ | refine Ext.al ?_ _ | refine Ext.dr ?_ | refine Ext.drN ?_ _ | refine Ext.gr ?_ _ | refine Ext.set ?_ (by simp) _ | (refine Ext.trans' ?_ (by assumption))))))) fun g3 hgr => ?_
  clear hgr
  go_upto_region 3 with (fail)
  obtain ⟨U, hU⟩ : ∃ zz9, zz9 = (grow W0 g3) := ⟨_, rfl⟩
  have eU : Ext W0 U := by rw [hU]; exact (by repeat (first | exact Below.refl _ _ | refine Ext.al ?_ _ | refine Ext.dr ?_ | refine Ext.drN ?_ _ | refine Ext.gr ?_ _ | refine Ext.set ?_ (by simp) _ | (refine Ext.trans' ?_ (by assumption))))
  replace k0 := cell_ext eU k0
  replace HS := Lib.hid (HS.out.ext eU)
  replace HW := Lib.hid (HW.out.trans' eU)
  rw [← hU]
  replace hz := World.block_lt_of_cell? _ _ k0
  clear hU eU
  simp only at hz
  obtain ⟨sf, hsf⟩ : ∃ sf, sf = decide (rkN ks (numS ks (zeroS ks)) < 0) := ⟨_, rfl⟩
  have HSF := Lib.hid hsf
  clear hsf
  refine wp_region_rove (U.heap.size) (Nat.le_refl _)
    [sqV (.agg #[.slice sa ks.length cap]),
     sqV (.agg #[.slice sa ks.length cap]),
     sqW (fun v W => IsInts W .i64 v (rowsL ks (rkN ks))) (fun _ _ _ h e => IsInts.ext e h),
     sqV (.agg #[.slice sa ks.length cap]),
     sqW (fun v W => IsInts W .i64 v (zeroS ks)) (fun _ _ _ h e => IsInts.ext e h),
     sqV (.bool sf),
     sqV (.bool (!sf))]
    [true, true, false, true, false, true, true] [false, false, false, false, false, false, false] [true, true, true, true, true, true, true] [true, true, true, true, true, true, true]
    (by kernel_rfl) (by kernel_rfl) (by decide +kernel) (by decide +kernel) (by decide +kernel) rfl ⟨rfl, rfl⟩ ⟨?s0, ?s1, ?s2, ?s3, ?s4, ?s5, ?s6, trivial⟩ [some 8, some 9, some 10, some 11, some 12, some 13, some 14] rfl rfl ?send
  case s0 =>
    intro val ρ W hE hz hd hA hx
    have o0 : ρ (.tmp 1) = .pointer (some ⟨w.heap.size, 0, none⟩) := hA.old 1 (by decide)
    have f_k0 := cell_below hE (by simp only; omega) k0
    clear hd
    exact runq_val (W' := W) (by simp [execOp, o0, f_k0, go_sem]) (Below.refl _ _) rfl
  case s1 =>
    intro val ρ W hE hz hd hA hx
    have o0 : ρ (.tmp 1) = .pointer (some ⟨w.heap.size, 0, none⟩) := hA.old 1 (by decide)
    have f_k0 := cell_below hE (by simp only; omega) k0
    clear hd
    exact runq_val (W' := W) (by simp [execOp, o0, f_k0, go_sem]) (Below.refl _ _) rfl
  case s3 =>
    intro val ρ W hE hz hd hA hx
    have o0 : ρ (.tmp 1) = .pointer (some ⟨w.heap.size, 0, none⟩) := hA.old 1 (by decide)
    have f_k0 := cell_below hE (by simp only; omega) k0
    clear hd
    exact runq_val (W' := W) (by simp [execOp, o0, f_k0, go_sem]) (Below.refl _ _) rfl
  case s6 =>
    intro val ρ W hE hz hd hA hx
    have d5 : ρ (.tmp 13) = .bool sf := (hA.dep 5 (by decide) 13 rfl).trans (hd 5 (by decide))
    clear hd
    exact runq_val (W' := W) (by simp [execOp, d5, go_sem]) (Below.refl _ _) rfl
  case s2 =>
    intro val ρ W hE hz hd hA hx
    have d1 : ρ (.tmp 9) = .agg #[.slice sa ks.length cap] := (hA.dep 1 (by decide) 9 rfl).trans (hd 1 (by decide))
    clear hd
    refine runq_call 77 _ _ rfl #[.agg #[.slice sa ks.length cap]] (hA.func _) (by simp [d1]) (fun args W => Try.call77 args W) ((rowsR_any ks _ W (HS.out.ext hE) V.out).mono ?_)
    rintro e w' ⟨v, rfl, hb, hi⟩
    exact ⟨_, rfl, hb, hi⟩
  case s4 =>
    intro val ρ W hE hz hd hA hx
    have d3 : ρ (.tmp 11) = .agg #[.slice sa ks.length cap] := (hA.dep 3 (by decide) 11 rfl).trans (hd 3 (by decide))
    clear hd
    refine runq_call 54 _ _ rfl #[.agg #[.slice sa ks.length cap]] (hA.func _) (by simp [d3]) (fun args W => Try.call54 args W) ((emptyR_any ks _ W (HS.out.ext hE) (by omega)).mono ?_)
    rintro e w' ⟨g, rfl, hb, hg, hn⟩
    exact ⟨_, rfl, hb, hn.zero (by omega)⟩
  case s5 =>
    intro val ρ W hE hz hd hA hx
    have d0 : ρ (.tmp 8) = .agg #[.slice sa ks.length cap] := (hA.dep 0 (by decide) 8 rfl).trans (hd 0 (by decide))
    have q2 : IsInts W .i64 (val 2) (rowsL ks (rkN ks)) := hd 2 (by decide)
    have d2 : ρ (.tmp 10) = val 2 := hA.dep 2 (by decide) 10 rfl
    have q4 : IsInts W .i64 (val 4) (zeroS ks) := hd 4 (by decide)
    have d4 : ρ (.tmp 12) = val 4 := hA.dep 4 (by decide) 12 rfl
    clear hd
    refine runq_call 76 _ _ rfl #[.agg #[.slice sa ks.length cap], val 2, val 4] (hA.func _) (by simp [d0, d2, d4]) (fun args W => Try.call76 args W) ((isSafeR_any ks (zeroS ks) (rkN ks) _ _ _ W (HS.out.ext hE) q2 q4 V.out (zeroS_st V.out)).mono ?_)
    rintro e w' ⟨rfl, hb⟩
    exact ⟨_, rfl, hb, by rw [HSF.out]; rfl⟩
  case send =>
    intro val WW hE hzz hv
    obtain ⟨-, -, -, -, -, -, q6, -⟩ := hv
    have q6' : val 6 = .bool (!sf) := q6
    have HE := Lib.hid (HW.out.trans' hE)
    simp only [putD, q6']
    go_frame
    clear q6 q6' hE hzz
    have hfin : circleErr ks = if sf = true then 0 else 17 := by
      unfold circleErr
      rw [if_neg (fun h => h HC.out), HSF.out, rkN_num V.out (zeroS_st V.out)]
      simp
    have HFIN := Lib.hid hfin
    clear hfin
    cases sf
    · go_wp2_with fail
      go_ret
      exact ⟨ret_int (by rw [HFIN.out]; rfl), HE.out⟩
    · go_wp2_with fail
      go_ret
      exact ⟨ret_int (by rw [HFIN.out]; rfl), HE.out⟩
set_option maxRecDepth 100000 in
set_option maxHeartbeats 2000000 in
theorem doomErrR_any (ks s : List Int) (kv sv : Value) (w : World) (hv : IsInts w .i64 kv ks) (hs : IsInts w .i64 sv s) :
    Calls Try.prog 35 #[.agg #[kv], sv] w fun e W => e = .returned (.int .i64 (doomRErr ks s)) ∧ Ext w W := by
  obtain ⟨sa, cap, rfl, h1, h2, -⟩ := hv.spec
  obtain ⟨la, lcap, rfl, h3, h4, -⟩ := hs.spec
  have HV := Lib.hid hv
  have HL0 := Lib.hid hs
  clear hv hs
  go_enter Try.func35, Try.ntmps35
  go_upto_region 1 with (fail)
  obtain ⟨W0, hW0⟩ : ∃ W0, W0 = w.alloc (.cells #[.slice sa ks.length cap] 24) := ⟨_, rfl⟩
  have hE : Ext w W0 := by rw [hW0]; exact (by repeat (first | exact Below.refl _ _ | refine Ext.al ?_ _ | refine Ext.dr ?_ | refine Ext.drN ?_ _ | refine Ext.gr ?_ _ | refine Ext.set ?_ (by simp) _ | (refine Ext.trans' ?_ (by assumption))))
  have k0 : W0.cell? ⟨w.heap.size, 0, none⟩ = some (.slice sa ks.length cap) := by rw [hW0]; simp [go_sem]
  have hz : w.heap.size < W0.heap.size := World.block_lt_of_cell? _ _ k0
  have HS := Lib.hid (HV.out.ext hE)
  have HW := Lib.hid hE
  rw [← hW0]
  clear hW0 HV
  have HL := Lib.hid (HL0.out.ext hE)
  clear hE HL0
  obtain ⟨er, her⟩ : ∃ er, er = stErr ks s := ⟨_, rfl⟩
  have c1 := fun W h1 h2 => statedR_any ks s (.slice sa ks.length cap) (.slice la s.length lcap) W h1 h2
  simp only [← her] at c1
  have C1 := Lib.hid c1
  have HER := Lib.hid her
  clear c1 her



  by_cases hc : er = 0
  rotate_left
  · have e1 : (er == 0) = false := by simpa using hc
    have e2 : (er != 0) = true := by simpa using hc
    have HC := Lib.hid hc
    clear hc

    go_wp2_with fail
    refine callW (W0 := W0) (g := ⟨W0, Below.refl _ _⟩) (by exact (by repeat (first | exact Below.refl _ _ | refine Ext.al ?_ _ | refine Ext.dr ?_ | refine Ext.drN ?_ _ | refine Ext.gr ?_ _ | refine Ext.set ?_ (by simp) _ | (refine Ext.trans' ?_ (by assumption))))) (C1.out _ (HS.out.ext (by exact (by repeat (first | exact Below.refl _ _ | refine Ext.al ?_ _ | refine Ext.dr ?_ | refine Ext.drN ?_ _ | refine Ext.gr ?_ _ | refine Ext.set ?_ (by simp) _ | (refine Ext.trans' ?_ (by assumption)))))) (HL.out.ext (by exact (by repeat (first | exact Below.refl _ _ | refine Ext.al ?_ _ | refine Ext.dr ?_ | refine Ext.drN ?_ _ | refine Ext.gr ?_ _ | refine Ext.set ?_ (by simp) _ | (refine Ext.trans' ?_ (by assumption))))))) fun g1 hgr => ?_
    clear hgr
    go_wp2_with fail
    refine callW (W0 := W0) (g := g1) (by exact (by repeat (first | exact Below.refl _ _ | refine Ext.al ?_ _ | refine Ext.dr ?_ | refine Ext.drN ?_ _ | refine Ext.gr ?_ _ | refine Ext.set ?_ (by simp) _ | (refine Ext.trans' ?_ (by assumption))))) (C1.out _ (HS.out.ext (by exact (by repeat (first | exact Below.refl _ _ | refine Ext.al ?_ _ | refine Ext.dr ?_ | refine Ext.drN ?_ _ | refine Ext.gr ?_ _ | refine Ext.set ?_ (by simp) _ | (refine Ext.trans' ?_ (by assumption)))))) (HL.out.ext (by exact (by repeat (first | exact Below.refl _ _ | refine Ext.al ?_ _ | refine Ext.dr ?_ | refine Ext.drN ?_ _ | refine Ext.gr ?_ _ | refine Ext.set ?_ (by simp) _ | (refine Ext.trans' ?_ (by assumption))))))) fun g2 hgr => ?_
    clear hgr
    go_wp2_with fail
    go_ret
    exact ⟨ret_int (by unfold doomRErr; rw [if_pos (by rw [← HER.out]; exact HC.out), HER.out]), HW.out.trans' (grow_below W0 _)⟩

  obtain ⟨v, hsi⟩ := stErr_ok (HER.out.symm.trans hc)
  have HC := Lib.hid (HER.out.symm.trans hc)
  have V := Lib.hid v
  have HIS := Lib.hid hsi
  subst hc
  clear v hsi
  have n1 := V.out.n1
  have n5 := V.out.n5
  go_wp2_with fail
  refine callW (W0 := W0) (g := ⟨W0, Below.refl _ _⟩) (by exact (by repeat (first | exact Below.refl _ _ | refine Ext.al ?_ _ | refine Ext.dr ?_ | refine Ext.drN ?_ _ | refine Ext.gr ?_ _ | refine Ext.set ?_ (by simp) _ | (refine Ext.trans' ?_ (by assumption))))) (C1.out _ (HS.out.ext (by exact (by repeat (first | exact Below.refl _ _ | refine Ext.al ?_ _ | refine Ext.dr ?_ | refine Ext.drN ?_ _ | refine Ext.gr ?_ _ | refine Ext.set ?_ (by simp) _ | (refine Ext.trans' ?_ (by assumption)))))) (HL.out.ext (by exact (by repeat (first | exact Below.refl _ _ | refine Ext.al ?_ _ | refine Ext.dr ?_ | refine Ext.drN ?_ _ | refine Ext.gr ?_ _ | refine Ext.set ?_ (by simp) _ | (refine Ext.trans' ?_ (by assumption))))))) fun g3 hgr => ?_
  clear hgr
  go_upto_region 3 with (fail)
  obtain ⟨U, hU⟩ : ∃ zz9, zz9 = (grow W0 g3) := ⟨_, rfl⟩
  have eU : Ext W0 U := by rw [hU]; exact (by repeat (first | exact Below.refl _ _ | refine Ext.al ?_ _ | refine Ext.dr ?_ | refine Ext.drN ?_ _ | refine Ext.gr ?_ _ | refine Ext.set ?_ (by simp) _ | (refine Ext.trans' ?_ (by assumption))))
  replace k0 := cell_ext eU k0
  replace HS := Lib.hid (HS.out.ext eU)
  replace HL := Lib.hid (HL.out.ext eU)
  replace HW := Lib.hid (HW.out.trans' eU)
  rw [← hU]
  replace hz := World.block_lt_of_cell? _ _ k0
  clear hU eU
  simp only at hz
  obtain ⟨sf, hsf⟩ : ∃ sf, sf = decide (rkN ks (numS ks s) < 0) := ⟨_, rfl⟩
  have HSF := Lib.hid hsf
  clear hsf
  refine wp_region_rove (U.heap.size) (Nat.le_refl _)
    [sqV (.agg #[.slice sa ks.length cap]),
     sqV (.agg #[.slice sa ks.length cap]),
     sqW (fun v W => IsInts W .i64 v (rowsL ks (rkN ks))) (fun _ _ _ h e => IsInts.ext e h),
     sqV (.slice la s.length lcap),
     sqV (.bool sf)]
    [true, true, false, true, true] [false, false, false, false, false] [true, true, true, true, true] [true, true, true, true, true]
    (by kernel_rfl) (by kernel_rfl) (by decide +kernel) (by decide +kernel) (by decide +kernel) rfl ⟨rfl, rfl⟩ ⟨?s0, ?s1, ?s2, ?s3, ?s4, trivial⟩ [some 12, some 13, some 14, some 15, some 16] rfl rfl ?send
  case s0 =>
    intro val ρ W hE hz hd hA hx
    have o0 : ρ (.tmp 2) = .pointer (some ⟨w.heap.size, 0, none⟩) := hA.old 2 (by decide)
    have f_k0 := cell_below hE (by simp only; omega) k0
    clear hd
    exact runq_val (W' := W) (by simp [execOp, o0, f_k0, go_sem]) (Below.refl _ _) rfl
  case s1 =>
    intro val ρ W hE hz hd hA hx
    have o0 : ρ (.tmp 2) = .pointer (some ⟨w.heap.size, 0, none⟩) := hA.old 2 (by decide)
    have f_k0 := cell_below hE (by simp only; omega) k0
    clear hd
    exact runq_val (W' := W) (by simp [execOp, o0, f_k0, go_sem]) (Below.refl _ _) rfl
  case s3 =>
    intro val ρ W hE hz hd hA hx
    have o0 : ρ (.tmp 1) = .slice la s.length lcap := hA.old 1 (by decide)
    clear hd
    exact runq_val (W' := W) (by simp [execOp, o0, go_sem]) (Below.refl _ _) rfl
  case s2 =>
    intro val ρ W hE hz hd hA hx
    have d1 : ρ (.tmp 13) = .agg #[.slice sa ks.length cap] := (hA.dep 1 (by decide) 13 rfl).trans (hd 1 (by decide))
    clear hd
    refine runq_call 77 _ _ rfl #[.agg #[.slice sa ks.length cap]] (hA.func _) (by simp [d1]) (fun args W => Try.call77 args W) ((rowsR_any ks _ W (HS.out.ext hE) V.out).mono ?_)
    rintro e w' ⟨v, rfl, hb, hi⟩
    exact ⟨_, rfl, hb, hi⟩
  case s4 =>
    intro val ρ W hE hz hd hA hx
    have d0 : ρ (.tmp 12) = .agg #[.slice sa ks.length cap] := (hA.dep 0 (by decide) 12 rfl).trans (hd 0 (by decide))
    have q2 : IsInts W .i64 (val 2) (rowsL ks (rkN ks)) := hd 2 (by decide)
    have d2 : ρ (.tmp 14) = val 2 := hA.dep 2 (by decide) 14 rfl
    have d3 : ρ (.tmp 15) = .slice la s.length lcap := (hA.dep 3 (by decide) 15 rfl).trans (hd 3 (by decide))
    clear hd
    refine runq_call 76 _ _ rfl #[.agg #[.slice sa ks.length cap], val 2, .slice la s.length lcap] (hA.func _) (by simp [d0, d2, d3]) (fun args W => Try.call76 args W) ((isSafeR_any ks s (rkN ks) _ _ _ W (HS.out.ext hE) q2 (HL.out.ext hE) V.out HIS.out).mono ?_)
    rintro e w' ⟨rfl, hb⟩
    exact ⟨_, rfl, hb, by rw [HSF.out]; rfl⟩
  case send =>
    intro val WW hE hzz hv
    obtain ⟨-, -, -, -, q4, -⟩ := hv
    have q4' : val 4 = .bool sf := q4
    have HE := Lib.hid (HW.out.trans' hE)
    simp only [putD, q4']
    go_frame
    clear q4 q4' hE hzz
    have hfin : doomRErr ks s = if sf = true then 5 else 0 := by
      unfold doomRErr
      rw [if_neg (fun h => h HC.out), HSF.out, rkN_num V.out HIS.out]
      simp
    have HFIN := Lib.hid hfin
    clear hfin
    cases sf
    · go_wp2_with fail
      go_ret
      exact ⟨ret_int (by rw [HFIN.out]; rfl), HE.out⟩
    · go_wp2_with fail
      go_ret
      exact ⟨ret_int (by rw [HFIN.out]; rfl), HE.out⟩
theorem filter_take_succ (p : Nat → Bool) (k : Nat) : ((List.range (k + 1)).filter p).length = ((List.range k).filter p).length + (if p k then 1 else 0) := by
  rw [List.range_succ, List.filter_append, List.length_append]
  cases h : p k <;> simp [h]
set_option maxRecDepth 100000 in
set_option maxHeartbeats 2000000 in
theorem countR_any (ks : List Int) (kv : Value) (w : World) (hv : IsInts w .i64 kv ks) :
    Calls Try.prog 45 #[.agg #[kv]] w fun e W => e = .returned (.tuple #[.int .i64 (countErr ks).1, .int .i64 (countErr ks).2]) ∧ Ext w W := by
  obtain ⟨sa, cap, rfl, h1, h2, -⟩ := hv.spec
  have HV := Lib.hid hv
  clear hv
  go_enter Try.func45, Try.ntmps45
  go_upto_region 1 with (fail)
  obtain ⟨W0, hW0⟩ : ∃ W0, W0 = w.alloc (.cells #[.slice sa ks.length cap] 24) := ⟨_, rfl⟩
  have hE : Ext w W0 := by rw [hW0]; exact (by repeat (first | exact Below.refl _ _ | refine Ext.al ?_ _ | refine Ext.dr ?_ | refine Ext.drN ?_ _ | refine Ext.gr ?_ _ | refine Ext.set ?_ (by simp) _ | (refine Ext.trans' ?_ (by assumption))))
  have k0 : W0.cell? ⟨w.heap.size, 0, none⟩ = some (.slice sa ks.length cap) := by rw [hW0]; simp [go_sem]
  have hz : w.heap.size < W0.heap.size := World.block_lt_of_cell? _ _ k0
  have HS := Lib.hid (HV.out.ext hE)
  have HW := Lib.hid hE
  rw [← hW0]
  clear hW0 HV
  clear hE
  obtain ⟨er, her⟩ : ∃ er, er = tchk ks := ⟨_, rfl⟩
  have c1 := fun W h1 => checkHallR_any ks (.slice sa ks.length cap) W h1
  simp only [← her] at c1
  have C1 := Lib.hid c1
  have HER := Lib.hid her
  clear c1 her



  by_cases hc : er = 0
  rotate_left
  · have e1 : (er == 0) = false := by simpa using hc
    have e2 : (er != 0) = true := by simpa using hc
    have HC := Lib.hid hc
    clear hc

    go_wp2_with fail
    refine callW (W0 := W0) (g := ⟨W0, Below.refl _ _⟩) (by exact (by repeat (first | exact Below.refl _ _ | refine Ext.al ?_ _ | refine Ext.dr ?_ | refine Ext.drN ?_ _ | refine Ext.gr ?_ _ | refine Ext.set ?_ (by simp) _ | (refine Ext.trans' ?_ (by assumption))))) (C1.out _ (HS.out.ext (by exact (by repeat (first | exact Below.refl _ _ | refine Ext.al ?_ _ | refine Ext.dr ?_ | refine Ext.drN ?_ _ | refine Ext.gr ?_ _ | refine Ext.set ?_ (by simp) _ | (refine Ext.trans' ?_ (by assumption))))))) fun g1 hgr => ?_
    clear hgr
    go_wp2_with fail
    refine callW (W0 := W0) (g := g1) (by exact (by repeat (first | exact Below.refl _ _ | refine Ext.al ?_ _ | refine Ext.dr ?_ | refine Ext.drN ?_ _ | refine Ext.gr ?_ _ | refine Ext.set ?_ (by simp) _ | (refine Ext.trans' ?_ (by assumption))))) (C1.out _ (HS.out.ext (by exact (by repeat (first | exact Below.refl _ _ | refine Ext.al ?_ _ | refine Ext.dr ?_ | refine Ext.drN ?_ _ | refine Ext.gr ?_ _ | refine Ext.set ?_ (by simp) _ | (refine Ext.trans' ?_ (by assumption))))))) fun g2 hgr => ?_
    clear hgr
    go_wp2_with fail
    refine bodyPost_ret (v := .tuple #[.int .i64 0, .int .i64 er]) (by simp [results, Try.results45, go_sem]) rfl ?_
    exact ⟨by unfold countErr; rw [if_pos (by rw [← HER.out]; exact HC.out), HER.out], HW.out.trans' (grow_below W0 _)⟩

  have HC := Lib.hid (HER.out.symm.trans hc)
  subst hc
  have V := Lib.hid (tval_of HC.out)
  have n1 := V.out.n1
  have n5 := V.out.n5
  have hN := nSt_le V.out
  go_wp2_with fail
  refine callW (W0 := W0) (g := ⟨W0, Below.refl _ _⟩) (by exact (by repeat (first | exact Below.refl _ _ | refine Ext.al ?_ _ | refine Ext.dr ?_ | refine Ext.drN ?_ _ | refine Ext.gr ?_ _ | refine Ext.set ?_ (by simp) _ | (refine Ext.trans' ?_ (by assumption))))) (C1.out _ (HS.out.ext (by exact (by repeat (first | exact Below.refl _ _ | refine Ext.al ?_ _ | refine Ext.dr ?_ | refine Ext.drN ?_ _ | refine Ext.gr ?_ _ | refine Ext.set ?_ (by simp) _ | (refine Ext.trans' ?_ (by assumption))))))) fun g3 hgr => ?_
  clear hgr
  go_wp2_with fail
  refine (rowsR_any ks _ _ (HS.out.ext (by exact (by repeat (first | exact Below.refl _ _ | refine Ext.al ?_ _ | refine Ext.dr ?_ | refine Ext.drN ?_ _ | refine Ext.gr ?_ _ | refine Ext.set ?_ (by simp) _ | (refine Ext.trans' ?_ (by assumption)))))) V.out).mono ?_
  rintro e W2 ⟨r, rfl, hE2, hI⟩
  have HR := Lib.hid (HW.out.trans' (Ext.trans' (grow_below W0 _) hE2))
  have hLl := rowsL_len ks (rkN ks)
  have hLa := fun X h => rowsL_at ks (rkN ks) (i := X) h
  have hcn : cntN ks = ((List.range (nSt ks)).filter fun (i : Nat) => decide (rkN ks i < 0)).length := rfl
  obtain ⟨L, hLe⟩ : ∃ L, L = rowsL ks (rkN ks) := ⟨_, rfl⟩
  obtain ⟨N, hN2⟩ : ∃ N, N = nSt ks := ⟨_, rfl⟩
  rw [← hLe] at hI hLl hLa
  rw [← hN2] at hLl hLa hcn hN
  obtain ⟨ra, rc, rfl, h5, h6, -⟩ := hI.spec
  obtain ⟨b, off, rfl, hbz, HRC⟩ := hI.at_all (by omega)
  have hcc : ∀ i, i < N → W2.cell? ⟨b, off + i, none⟩ = some (.int .i64 (rkN ks i)) := fun i hi => by
    rw [HRC W2 (Below.refl _ _) i (by omega), hLa i hi]
  have HCC := Lib.hid hcc
  have HLL := Lib.hid hLl
  have HCN := Lib.hid hcn
  clear hE2 hI hLl hLa hcn hLe hN2 HRC hcc
  go_wp2_with fail
  go_loop [4, 6] (fun n i => ∃ k : Nat, k ≤ N ∧ i = .int .i64 k ∧ n = .int .i64 ((List.range k).filter fun (i : Nat) => decide (rkN ks i < 0)).length) (fun _ i => N - (intOf i).toNat)
  case atStart => exact ⟨0, by omega, rfl, rfl⟩
  case round =>
    obtain ⟨k, hk, rfl, rfl⟩ := hrel
    have hfl := List.length_filter_le (fun (i : Nat) => decide (rkN ks i < 0)) (List.range k)
    rw [List.length_range] at hfl
    by_cases hlt : k < N
    · have hkL : (k : Int) < (L.length : Int) := by have := HLL.out; omega
      have c0 := HCC.out k hlt
      have hsu := filter_take_succ (fun (i : Nat) => decide (rkN ks i < 0)) k
      obtain ⟨x, hx⟩ : ∃ x, x = rkN ks k := ⟨_, rfl⟩
      rw [← hx] at c0 hsu
      obtain ⟨c, hc⟩ : ∃ c, c = ((List.range k).filter fun (i : Nat) => decide (rkN ks i < 0)).length := ⟨_, rfl⟩
      rw [← hc] at hfl hsu ⊢
      have HSU := Lib.hid hsu
      clear hx hsu hc
      by_cases hn : x < 0
      · have hd : decide (x < 0) = true := decide_eq_true hn
        have HD := Lib.hid hd
        clear hn
        go_wp2_with fail
        go_round
        case rel => exact ⟨k + 1, by omega, by go_num, by rw [HSU.out, HD.out]; go_num⟩
        case measure => simp [intOf]; omega
      · have hd : decide (x < 0) = false := decide_eq_false hn
        have HD := Lib.hid hd
        clear hn
        go_wp2_with fail
        go_round
        case rel => exact ⟨k + 1, by omega, by go_num, by rw [HSU.out, HD.out]; simp⟩
        case measure => simp [intOf]; omega
    · obtain rfl : k = N := by omega
      have hkL : ¬ ((k : Int) < (L.length : Int)) := by have := HLL.out; omega
      obtain ⟨c, hc⟩ : ∃ c, c = ((List.range k).filter fun (i : Nat) => decide (rkN ks i < 0)).length := ⟨_, rfl⟩
      rw [← hc]
      have HC2 := Lib.hid hc
      clear hfl hc
      go_wp2_with fail
      refine bodyPost_ret (v := .tuple #[.int .i64 c, .int .i64 0]) (by simp [results, Try.results45, go_sem]) rfl ?_
      exact ⟨by unfold countErr; rw [if_neg (fun h => h HC.out), HCN.out, HC2.out], HR.out⟩
end Go.Proofs.Ytndgaklcnhoddaa
