/-
  The statement TurnKnown holds: the examples of the chapter. No condition.
-/
import Derived.Test.YtndgaklcnhoddaaHalls
namespace Go.Proofs.Ytndgaklcnhoddaa
open Go.RowKit Go.Shelf
def P1 (l : List Int) (v : Value) (W : World) : Prop := ∃ b, v = .slice (some ⟨b, 0, none⟩) 1 1 ∧ IsInts W .i64 (.slice (some ⟨b, 0, none⟩) 1 1) l
theorem P1.ext {l : List Int} {v : Value} {w w' : World} (e : Ext w w') (h : P1 l v w) : P1 l v w' := by
  obtain ⟨b, h1, h2⟩ := h
  exact ⟨b, h1, h2.ext e⟩
def tK : List Int := [1, 0, 0, 0]
theorem okK : tabOk hK tK = true := by decide +kernel
theorem y1 : turnErr hH [1, 2] [0, 1] 0 = 0 ∧ turnL hH [1, 2] [0, 1] 0 = [0, 3] ∧ turnN hH [1, 2] [0, 1] 0 = 2 := ⟨by decide +kernel, by decide +kernel, by decide +kernel⟩
theorem y2 : turnErr hH [2, 2] [0] 0 = 17 ∧ turnL hH [2, 2] [0] 0 = [] ∧ turnN hH [2, 2] [0] 0 = 0 := ⟨by decide +kernel, by decide +kernel, by decide +kernel⟩
theorem y3 : circErr hH [0, 1] = 0 := by decide +kernel
theorem y4 : circErr hH [0] = 17 := by decide +kernel
theorem y5 : doomErr hK [0, 0] [([0, 1], 1), ([0, 0], 2)] = 14 := by decide +kernel
theorem y6 : nextErr hH [0, 0] = 0 ∧ nextL hH [0, 0] = [0, 1] := by
  obtain ⟨a, b⟩ := next_of vH okH (s := [0, 0]) (by decide +kernel)
  rw [a, b]; exact ⟨by decide +kernel, by decide +kernel⟩
theorem y7 : nextErr hH [1, 2] = 17 ∧ nextL hH [1, 2] = [] := by
  obtain ⟨a, b⟩ := next_of vH okH (s := [1, 2]) (by decide +kernel)
  rw [a, b]; exact ⟨by decide +kernel, by decide +kernel⟩
theorem y8 : waitErr hH [1, 2] = 0 ∧ waitLL hH [1, 2] = [0] := by
  obtain ⟨a, b⟩ := wait_of vH okH (s := [1, 2]) (by decide +kernel)
  rw [a, b]; exact ⟨by decide +kernel, by decide +kernel⟩
theorem y9 : waitErr hH [1, 1] = 0 ∧ waitLL hH [1, 1] = [] := by
  obtain ⟨a, b⟩ := wait_of vH okH (s := [1, 1]) (by decide +kernel)
  rw [a, b]; exact ⟨by decide +kernel, by decide +kernel⟩
theorem y10 : lastsErr hH [1, 2] = 0 ∧ lastsL hH [1, 2] = [0] := by
  obtain ⟨a, b⟩ := lasts_of vH okH (s := [1, 2]) (by decide +kernel)
  rw [a, b]; exact ⟨by decide +kernel, by decide +kernel⟩
theorem y11 : lastsErr hH [0, 0] = 5 ∧ lastsL hH [0, 0] = [] := by
  obtain ⟨a, b⟩ := lasts_of vH okH (s := [0, 0]) (by decide +kernel)
  rw [a, b]; exact ⟨by decide +kernel, by decide +kernel⟩
theorem y12 : countErr hK = (0, 0) := by
  rw [count_of vK okK]; decide +kernel
set_option maxRecDepth 200000 in
set_option maxHeartbeats 16000000 in
theorem turnKnown_any (w : World) : Calls Try.prog 17 #[] w fun e W => e = .returned (.bool true) ∧ Ext w W := by
  have Y1a := Lib.hid y1.1
  have Y1b := Lib.hid y1.2.1
  have Y1c := Lib.hid y1.2.2
  have Y2a := Lib.hid y2.1
  have Y2b := Lib.hid y2.2.1
  have Y2c := Lib.hid y2.2.2
  have Y3 := Lib.hid y3
  have Y4 := Lib.hid y4
  have Y5 := Lib.hid y5
  have Y6a := Lib.hid y6.1
  have Y6b := Lib.hid y6.2
  have Y7a := Lib.hid y7.1
  have Y7b := Lib.hid y7.2
  have Y8a := Lib.hid y8.1
  have Y8b := Lib.hid y8.2
  have Y9a := Lib.hid y9.1
  have Y9b := Lib.hid y9.2
  have Y10a := Lib.hid y10.1
  have Y10b := Lib.hid y10.2
  have Y11a := Lib.hid y11.1
  have Y11b := Lib.hid y11.2
  have Y12 := Lib.hid y12
  have LH := Lib.hid (show hH = [2, 3] from rfl)
  have LK := Lib.hid (show hK = [1, 1] from rfl)
  go_enter Try.func17, Try.ntmps17

  go_wp2_with fail
  refine callWR (W0 := w) (g := ⟨w, Below.refl _ _⟩) (by exact (by repeat (first | exact Below.refl _ _ | refine Ext.al ?_ _ | refine Ext.dr ?_ | refine Ext.drN ?_ _ | refine Ext.gr ?_ _ | refine Ext.set ?_ (by simp) _ | (refine Ext.trans' ?_ (by assumption))))) (hallL_any hH _ _ (by rw [LH.out]; exact (isI2 (by simp [go_sem]) (by simp [go_sem]) (by omega) (by omega)))) (fun _ _ ⟨_, _, r, _⟩ => r) fun _ g1 hgr hr => ?_
  obtain ⟨va, rfl, -, hA⟩ := hr
  clear hgr
  obtain ⟨ha, hc, rfl, -⟩ := hA.spec
  have HA := Lib.hid hA
  clear hA

  go_wp2_with fail
  refine callWR (W0 := w) (g := g1) (by exact (by repeat (first | exact Below.refl _ _ | refine Ext.al ?_ _ | refine Ext.dr ?_ | refine Ext.drN ?_ _ | refine Ext.gr ?_ _ | refine Ext.set ?_ (by simp) _ | (refine Ext.trans' ?_ (by assumption))))) (hallL_any hK _ _ (by rw [LK.out]; exact (isI2 (by simp [go_sem]) (by simp [go_sem]) (by omega) (by omega)))) (fun _ _ ⟨_, _, r, _⟩ => r) fun _ g2 hgr hr => ?_
  obtain ⟨vc, rfl, -, hC⟩ := hr
  replace HA := Lib.hid (HA.out.ext hgr)
  clear hgr
  obtain ⟨ka, kc, rfl, -⟩ := hC.spec
  have HC := Lib.hid hC
  clear hC
  go_upto_region 2 with (fail)
  obtain ⟨W0, hW0⟩ : ∃ W0, W0 = ((grow w g2).alloc (.cells #[.slice ha hH.length hc] 24)).alloc (.cells #[.slice ka hK.length kc] 24) := ⟨_, rfl⟩
  have k1 : W0.cell? ⟨(grow w g2).heap.size, 0, none⟩ = some (.slice ha hH.length hc) := by rw [hW0]; simp [go_sem]
  have k3 : W0.cell? ⟨(grow w g2).heap.size + 1, 0, none⟩ = some (.slice ka hK.length kc) := by rw [hW0]; simp [go_sem]
  have hE0 : Ext (grow w g2) W0 := by rw [hW0]; exact (by repeat (first | exact Below.refl _ _ | refine Ext.al ?_ _ | refine Ext.dr ?_ | refine Ext.drN ?_ _ | refine Ext.gr ?_ _ | refine Ext.set ?_ (by simp) _ | (refine Ext.trans' ?_ (by assumption))))
  have HW := Lib.hid (Ext.trans' (grow_below w g2) hE0)
  replace HA := Lib.hid (HA.out.ext hE0)
  replace HC := Lib.hid (HC.out.ext hE0)
  rw [← hW0]
  obtain ⟨b, hb⟩ : ∃ b, b = (grow w g2).heap.size := ⟨_, rfl⟩
  rw [← hb] at k1 k3 ⊢
  have z1 := World.block_lt_of_cell? _ _ k1
  have z3 := World.block_lt_of_cell? _ _ k3
  simp only at z1 z3
  clear hW0 hE0 hb




  go_wp2_with fail
  refine callWR (W0 := W0) (g := ⟨W0, Below.refl _ _⟩) (by exact (by repeat (first | exact Below.refl _ _ | refine Ext.al ?_ _ | refine Ext.dr ?_ | refine Ext.drN ?_ _ | refine Ext.gr ?_ _ | refine Ext.set ?_ (by simp) _ | (refine Ext.trans' ?_ (by assumption))))) (turn_any hH [1, 2] [0, 1] 0 _ _ _ _ (HA.out.ext (by exact (by repeat (first | exact Below.refl _ _ | refine Ext.al ?_ _ | refine Ext.dr ?_ | refine Ext.drN ?_ _ | refine Ext.gr ?_ _ | refine Ext.set ?_ (by simp) _ | (refine Ext.trans' ?_ (by assumption)))))) (isI2 (by simp [go_sem]) (by simp [go_sem]) (by omega) (by omega)) (isI2 (by simp [go_sem]) (by simp [go_sem]) (by omega) (by omega))) (fun _ _ ⟨_, _, r, _⟩ => r) fun _ g1 hgr hr => ?_
  obtain ⟨x, rfl, -, hI⟩ := hr
  clear hgr
  rw [Y1c.out, Y1a.out]
  rw [Y1b.out] at hI
  obtain ⟨a1, c1, rfl, -⟩ := hI.spec
  have HI1 := Lib.hid hI
  clear hI

  go_wp2_with fail
  refine callWR (W0 := W0) (g := g1) (by exact (by repeat (first | exact Below.refl _ _ | refine Ext.al ?_ _ | refine Ext.dr ?_ | refine Ext.drN ?_ _ | refine Ext.gr ?_ _ | refine Ext.set ?_ (by simp) _ | (refine Ext.trans' ?_ (by assumption))))) (turn_any hH [2, 2] [0] 0 _ _ _ _ (HA.out.ext (by exact (by repeat (first | exact Below.refl _ _ | refine Ext.al ?_ _ | refine Ext.dr ?_ | refine Ext.drN ?_ _ | refine Ext.gr ?_ _ | refine Ext.set ?_ (by simp) _ | (refine Ext.trans' ?_ (by assumption)))))) (isI2 (by simp [go_sem]) (by simp [go_sem]) (by omega) (by omega)) (isI1 (by simp [go_sem]) (by omega) (by omega))) (fun _ _ ⟨_, _, r, _⟩ => r) fun _ g2 hgr hr => ?_
  obtain ⟨x, rfl, -, hI⟩ := hr
  replace HI1 := Lib.hid (HI1.out.ext hgr)
  clear hgr
  rw [Y2c.out, Y2a.out]
  rw [Y2b.out] at hI
  obtain ⟨a2, c2, rfl, -⟩ := hI.spec
  clear hI
  go_upto_region 4 with (fail)
  obtain ⟨U, hU⟩ : ∃ zz9, zz9 = (grow W0 g2) := ⟨_, rfl⟩
  have eU : Ext W0 U := by rw [hU]; exact (by repeat (first | exact Below.refl _ _ | refine Ext.al ?_ _ | refine Ext.dr ?_ | refine Ext.drN ?_ _ | refine Ext.gr ?_ _ | refine Ext.set ?_ (by simp) _ | (refine Ext.trans' ?_ (by assumption))))
  have eUc : Ext (grow W0 g2) U := by rw [hU]; exact (by repeat (first | exact Below.refl _ _ | refine Ext.al ?_ _ | refine Ext.dr ?_ | refine Ext.drN ?_ _ | refine Ext.gr ?_ _ | refine Ext.set ?_ (by simp) _ | (refine Ext.trans' ?_ (by assumption))))
  replace k1 := cell_ext eU k1
  replace k3 := cell_ext eU k3
  replace HA := Lib.hid (HA.out.ext eU)
  replace HC := Lib.hid (HC.out.ext eU)
  replace HI1 := Lib.hid (HI1.out.ext eUc)
  replace HW := Lib.hid (HW.out.trans' eU)
  rw [← hU]
  replace z1 := World.block_lt_of_cell? _ _ k1
  replace z3 := World.block_lt_of_cell? _ _ k3
  clear hU eU eUc
  refine wp_region_rove (U.heap.size) (Nat.le_refl _)
    [sqV (.agg #[.slice ha hH.length hc]),
     sqW (fun v W => P2 [0, 1] v W) (fun _ _ _ h e => P2.ext e h),
     sqV (.int .i64 0),
     sqV (.agg #[.slice ha hH.length hc]),
     sqW (fun v W => P1 [0] v W) (fun _ _ _ h e => P1.ext e h),
     sqV (.int .i64 17),
     sqV (.int .i64 0),
     sqV (.int .i64 17)]
    [true, false, true, true, false, true, true, true] [false, false, false, false, false, false, false, false] [true, true, true, true, true, true, true, true] [true, true, true, true, true, true, true, true]
    (by kernel_rfl) (by kernel_rfl) (by decide +kernel) (by decide +kernel) (by decide +kernel) rfl ⟨rfl, rfl⟩ ⟨?s0, ?s1, ?s2, ?s3, ?s4, ?s5, ?s6, ?s7, trivial⟩ [some 46, some 47, some 48, some 49, some 50, some 51, some 9, some 10] rfl rfl ?send
  case s0 =>
    intro val ρ W hE hz hd hA hx
    have o0 : ρ (.tmp 1) = .pointer (some ⟨b, 0, none⟩) := hA.old 1 (by decide)
    have f_k1 := cell_below hE (by simp only; omega) k1
    clear hd
    exact runq_val (W' := W) (by simp [execOp, o0, f_k1, go_sem]) (Below.refl _ _) rfl
  case s3 =>
    intro val ρ W hE hz hd hA hx
    have o0 : ρ (.tmp 1) = .pointer (some ⟨b, 0, none⟩) := hA.old 1 (by decide)
    have f_k1 := cell_below hE (by simp only; omega) k1
    clear hd
    exact runq_val (W' := W) (by simp [execOp, o0, f_k1, go_sem]) (Below.refl _ _) rfl
  case s6 =>
    intro val ρ W hE hz hd hA hx
    have d2 : ρ (.tmp 48) = .int .i64 0 := (hA.dep 2 (by decide) 48 rfl).trans (hd 2 (by decide))
    clear hd
    exact runq_val (W' := W) (by simp [execOp, d2, go_sem]) (Below.refl _ _) rfl
  case s7 =>
    intro val ρ W hE hz hd hA hx
    have d5 : ρ (.tmp 51) = .int .i64 17 := (hA.dep 5 (by decide) 51 rfl).trans (hd 5 (by decide))
    clear hd
    exact runq_val (W' := W) (by simp [execOp, d5, go_sem]) (Below.refl _ _) rfl
  case s1 =>
    intro val ρ W hE hz hd hA hx
    clear hd
    refine runq_val (by simp [execOp, hA.const, go_sem]; exact ⟨rfl, rfl⟩) (by exact (by repeat (first | exact Below.refl _ _ | refine Ext.al ?_ _ | refine Ext.dr ?_ | refine Ext.drN ?_ _ | refine Ext.gr ?_ _ | refine Ext.set ?_ (by simp) _ | (refine Ext.trans' ?_ (by assumption))))) ⟨_, rfl, (isI2 (by simp [go_sem]) (by simp [go_sem]) (by omega) (by omega))⟩
  case s4 =>
    intro val ρ W hE hz hd hA hx
    clear hd
    refine runq_val (by simp [execOp, hA.const, go_sem]; exact ⟨rfl, rfl⟩) (by exact (by repeat (first | exact Below.refl _ _ | refine Ext.al ?_ _ | refine Ext.dr ?_ | refine Ext.drN ?_ _ | refine Ext.gr ?_ _ | refine Ext.set ?_ (by simp) _ | (refine Ext.trans' ?_ (by assumption))))) ⟨_, rfl, (isI1 (by simp [go_sem]) (by omega) (by omega))⟩
  case s2 =>
    intro val ρ W hE hz hd hA hx
    have d0 : ρ (.tmp 46) = .agg #[.slice ha hH.length hc] := (hA.dep 0 (by decide) 46 rfl).trans (hd 0 (by decide))
    obtain ⟨b2, h1, h2⟩ : P2 [0, 1] (val 1) W := hd 1 (by decide)
    have d1 : ρ (.tmp 47) = .slice (some ⟨b2, 0, none⟩) 2 2 := (hA.dep 1 (by decide) 47 rfl).trans h1
    clear hd
    refine runq_call 28 _ _ rfl #[.agg #[.slice ha hH.length hc], .slice (some ⟨b2, 0, none⟩) 2 2] (hA.func _) (by simp [d0, d1]) (fun args W => Try.call28 args W) ((checkCircle_any hH [0, 1] _ _ W (HA.out.ext hE) h2).mono ?_)
    rintro e w' ⟨rfl, hb⟩
    exact ⟨_, rfl, hb, by rw [Y3.out]; rfl⟩
  case s5 =>
    intro val ρ W hE hz hd hA hx
    have d0 : ρ (.tmp 49) = .agg #[.slice ha hH.length hc] := (hA.dep 3 (by decide) 49 rfl).trans (hd 3 (by decide))
    obtain ⟨b2, h1, h2⟩ : P1 [0] (val 4) W := hd 4 (by decide)
    have d1 : ρ (.tmp 50) = .slice (some ⟨b2, 0, none⟩) 1 1 := (hA.dep 4 (by decide) 50 rfl).trans h1
    clear hd
    refine runq_call 28 _ _ rfl #[.agg #[.slice ha hH.length hc], .slice (some ⟨b2, 0, none⟩) 1 1] (hA.func _) (by simp [d0, d1]) (fun args W => Try.call28 args W) ((checkCircle_any hH [0] _ _ W (HA.out.ext hE) h2).mono ?_)
    rintro e w' ⟨rfl, hb⟩
    exact ⟨_, rfl, hb, by rw [Y4.out]; rfl⟩
  case send =>
    intro val WW hE hzz hv
    obtain ⟨-, -, -, -, -, -, q6, q7, -⟩ := hv
    have q6' : val 6 = .int .i64 0 := q6
    have q7' : val 7 = .int .i64 17 := q7
    obtain ⟨g20, rfl⟩ := grow_of hE
    simp only [putD, q6', q7']
    go_frame
    clear q6 q6' q7 q7' hE hzz

    go_upto_region 5 with (fail)
    obtain ⟨U2, hU2⟩ : ∃ zz9, zz9 = (grow U g20) := ⟨_, rfl⟩
    have eU2 : Ext U U2 := by rw [hU2]; exact (by repeat (first | exact Below.refl _ _ | refine Ext.al ?_ _ | refine Ext.dr ?_ | refine Ext.drN ?_ _ | refine Ext.gr ?_ _ | refine Ext.set ?_ (by simp) _ | (refine Ext.trans' ?_ (by assumption))))
    replace k1 := cell_ext eU2 k1
    replace k3 := cell_ext eU2 k3
    replace HA := Lib.hid (HA.out.ext eU2)
    replace HC := Lib.hid (HC.out.ext eU2)
    replace HI1 := Lib.hid (HI1.out.ext eU2)
    replace HW := Lib.hid (HW.out.trans' eU2)
    rw [← hU2]
    replace z1 := World.block_lt_of_cell? _ _ k1
    replace z3 := World.block_lt_of_cell? _ _ k3
    clear hU2 eU2
    refine wp_region_rove (U2.heap.size) (Nat.le_refl _)
      [sqV (.agg #[.slice ka hK.length kc]),
       sqW (fun v W => P2 [0, 0] v W) (fun _ _ _ h e => P2.ext e h),
       sqW (fun v W => P2 [0, 1] v W) (fun _ _ _ h e => P2.ext e h),
       sqW (fun v W => PS 1 [0, 1] v W) (fun _ _ _ h e => PS.ext e h),
       sqW (fun v W => P2 [0, 0] v W) (fun _ _ _ h e => P2.ext e h),
       sqW (fun v W => PS 2 [0, 0] v W) (fun _ _ _ h e => PS.ext e h),
       sqW (fun v W => IsStps W v [([0, 1], 1), ([0, 0], 2)]) (fun _ _ _ h e => IsStps.ext e h),
       sqV (.int .i64 14),
       sqV (.int .i64 14)]
      [true, false, false, false, false, false, false, true, true] [false, false, false, false, false, false, false, false, false] [true, true, true, true, true, true, true, true, true] [true, true, true, true, true, true, true, true, true]
      (by kernel_rfl) (by kernel_rfl) (by decide +kernel) (by decide +kernel) (by decide +kernel) rfl ⟨rfl, rfl⟩ ⟨?s0, ?s1, ?s2, ?s3, ?s4, ?s5, ?s6, ?s7, ?s8, trivial⟩ [some 52, some 53, some 54, some 55, some 56, some 57, some 58, some 59, some 11] rfl rfl ?send
    case s0 =>
      intro val ρ W hE hz hd hA hx
      have o0 : ρ (.tmp 2) = .pointer (some ⟨b + 1, 0, none⟩) := hA.old 2 (by decide)
      have f_k3 := cell_below hE (by simp only; omega) k3
      clear hd
      exact runq_val (W' := W) (by simp [execOp, o0, f_k3, go_sem]) (Below.refl _ _) rfl
    case s8 =>
      intro val ρ W hE hz hd hA hx
      have d7 : ρ (.tmp 59) = .int .i64 14 := (hA.dep 7 (by decide) 59 rfl).trans (hd 7 (by decide))
      clear hd
      exact runq_val (W' := W) (by simp [execOp, d7, go_sem]) (Below.refl _ _) rfl
    case s1 =>
      intro val ρ W hE hz hd hA hx
      clear hd
      refine runq_val (by simp [execOp, hA.const, go_sem]; exact ⟨rfl, rfl⟩) (by exact (by repeat (first | exact Below.refl _ _ | refine Ext.al ?_ _ | refine Ext.dr ?_ | refine Ext.drN ?_ _ | refine Ext.gr ?_ _ | refine Ext.set ?_ (by simp) _ | (refine Ext.trans' ?_ (by assumption))))) ⟨_, rfl, (isI2 (by simp [go_sem]) (by simp [go_sem]) (by omega) (by omega))⟩
    case s2 =>
      intro val ρ W hE hz hd hA hx
      clear hd
      refine runq_val (by simp [execOp, hA.const, go_sem]; exact ⟨rfl, rfl⟩) (by exact (by repeat (first | exact Below.refl _ _ | refine Ext.al ?_ _ | refine Ext.dr ?_ | refine Ext.drN ?_ _ | refine Ext.gr ?_ _ | refine Ext.set ?_ (by simp) _ | (refine Ext.trans' ?_ (by assumption))))) ⟨_, rfl, (isI2 (by simp [go_sem]) (by simp [go_sem]) (by omega) (by omega))⟩
    case s4 =>
      intro val ρ W hE hz hd hA hx
      clear hd
      refine runq_val (by simp [execOp, hA.const, go_sem]; exact ⟨rfl, rfl⟩) (by exact (by repeat (first | exact Below.refl _ _ | refine Ext.al ?_ _ | refine Ext.dr ?_ | refine Ext.drN ?_ _ | refine Ext.gr ?_ _ | refine Ext.set ?_ (by simp) _ | (refine Ext.trans' ?_ (by assumption))))) ⟨_, rfl, (isI2 (by simp [go_sem]) (by simp [go_sem]) (by omega) (by omega))⟩
    case s3 =>
      intro val ρ W hE hz hd hA hx
      obtain ⟨b2, h1, h2⟩ : P2 [0, 1] (val 2) W := hd 2 (by decide)
      have d2 : ρ (.tmp 54) = .slice (some ⟨b2, 0, none⟩) 2 2 := (hA.dep 2 (by decide) 54 rfl).trans h1
      clear hd
      refine runq_call 61 _ _ rfl #[.int .i64 1, .slice (some ⟨b2, 0, none⟩) 2 2] (hA.func _) (by simp [d2, hA.const]) (fun args W => Try.call61 args W) ((stepL_any [0, 1] 1 _ W h2).mono ?_)
      rintro e w' ⟨rfl, hb⟩
      exact ⟨_, rfl, hb, b2, rfl, h2.ext hb⟩
    case s5 =>
      intro val ρ W hE hz hd hA hx
      obtain ⟨b2, h1, h2⟩ : P2 [0, 0] (val 4) W := hd 4 (by decide)
      have d2 : ρ (.tmp 56) = .slice (some ⟨b2, 0, none⟩) 2 2 := (hA.dep 4 (by decide) 56 rfl).trans h1
      clear hd
      refine runq_call 61 _ _ rfl #[.int .i64 2, .slice (some ⟨b2, 0, none⟩) 2 2] (hA.func _) (by simp [d2, hA.const]) (fun args W => Try.call61 args W) ((stepL_any [0, 0] 2 _ W h2).mono ?_)
      rintro e w' ⟨rfl, hb⟩
      exact ⟨_, rfl, hb, b2, rfl, h2.ext hb⟩
    case s6 =>
      intro val ρ W hE hz hd hA hx
      obtain ⟨b3, h3, i3⟩ : PS 1 [0, 1] (val 3) W := hd 3 (by decide)
      obtain ⟨b5, h5, i5⟩ : PS 2 [0, 0] (val 5) W := hd 5 (by decide)
      have d3 : ρ (.tmp 55) = .agg #[.slice (some ⟨b3, 0, none⟩) 2 2, .int .i64 1] := (hA.dep 3 (by decide) 55 rfl).trans h3
      have d5 : ρ (.tmp 57) = .agg #[.slice (some ⟨b5, 0, none⟩) 2 2, .int .i64 2] := (hA.dep 5 (by decide) 57 rfl).trans h5
      clear hd
      refine runq_val (by simp [execOp, d3, d5, go_sem]; exact ⟨rfl, rfl⟩) (by exact (by repeat (first | exact Below.refl _ _ | refine Ext.al ?_ _ | refine Ext.dr ?_ | refine Ext.drN ?_ _ | refine Ext.gr ?_ _ | refine Ext.set ?_ (by simp) _ | (refine Ext.trans' ?_ (by assumption))))) ⟨_, 2, rfl, by simp, by omega, .inr ⟨_, 0, rfl, fun i hi => ?_⟩⟩
      match i, hi with
      | 0, _ => exact ⟨_, _, by simp [go_sem], i3.ext (by exact (by repeat (first | exact Below.refl _ _ | refine Ext.al ?_ _ | refine Ext.dr ?_ | refine Ext.drN ?_ _ | refine Ext.gr ?_ _ | refine Ext.set ?_ (by simp) _ | (refine Ext.trans' ?_ (by assumption))))), by simp [go_sem]⟩
      | 1, _ => exact ⟨_, _, by simp [go_sem], i5.ext (by exact (by repeat (first | exact Below.refl _ _ | refine Ext.al ?_ _ | refine Ext.dr ?_ | refine Ext.drN ?_ _ | refine Ext.gr ?_ _ | refine Ext.set ?_ (by simp) _ | (refine Ext.trans' ?_ (by assumption))))), by simp [go_sem]⟩
      | n + 2, hi => exact absurd hi (by simp)
    case s7 =>
      intro val ρ W hE hz hd hA hx
      have d0 : ρ (.tmp 52) = .agg #[.slice ka hK.length kc] := (hA.dep 0 (by decide) 52 rfl).trans (hd 0 (by decide))
      obtain ⟨b2, h1, h2⟩ : P2 [0, 0] (val 1) W := hd 1 (by decide)
      have d1 : ρ (.tmp 53) = .slice (some ⟨b2, 0, none⟩) 2 2 := (hA.dep 1 (by decide) 53 rfl).trans h1
      have q6 : IsStps W (val 6) [([0, 1], 1), ([0, 0], 2)] := hd 6 (by decide)
      have d6 : ρ (.tmp 58) = val 6 := hA.dep 6 (by decide) 58 rfl
      clear hd
      refine runq_call 36 _ _ rfl #[.agg #[.slice ka hK.length kc], .slice (some ⟨b2, 0, none⟩) 2 2, val 6] (hA.func _) (by simp [d0, d1, d6]) (fun args W => Try.call36 args W) ((checkDoom_any hK [0, 0] _ _ _ _ W (HC.out.ext hE) h2 q6).mono ?_)
      rintro e w' ⟨rfl, hb⟩
      exact ⟨_, rfl, hb, by rw [Y5.out]; rfl⟩
    case send =>
      intro val WW hE hzz hv
      obtain ⟨-, -, -, -, -, -, -, -, q8, -⟩ := hv
      have q8' : val 8 = .int .i64 14 := q8
      obtain ⟨g21, rfl⟩ := grow_of hE
      simp only [putD, q8']
      go_frame
      clear q8 q8' hE hzz

      go_wp2_with fail
      refine callWR (W0 := U2) (g := g21) (by exact (by repeat (first | exact Below.refl _ _ | refine Ext.al ?_ _ | refine Ext.dr ?_ | refine Ext.drN ?_ _ | refine Ext.gr ?_ _ | refine Ext.set ?_ (by simp) _ | (refine Ext.trans' ?_ (by assumption))))) (next_any hH [0, 0] _ _ _ (HA.out.ext (by exact (by repeat (first | exact Below.refl _ _ | refine Ext.al ?_ _ | refine Ext.dr ?_ | refine Ext.drN ?_ _ | refine Ext.gr ?_ _ | refine Ext.set ?_ (by simp) _ | (refine Ext.trans' ?_ (by assumption)))))) (isI2 (by simp [go_sem]) (by simp [go_sem]) (by omega) (by omega))) (fun _ _ ⟨_, _, r, _⟩ => r) fun _ g3 hgr hr => ?_
      obtain ⟨x, rfl, -, hI⟩ := hr
      clear hgr
      rw [Y6a.out]
      rw [Y6b.out] at hI
      obtain ⟨a6, c6, rfl, -⟩ := hI.spec
      have HI6 := Lib.hid hI
      clear hI

      go_wp2_with fail
      refine callWR (W0 := U2) (g := g3) (by exact (by repeat (first | exact Below.refl _ _ | refine Ext.al ?_ _ | refine Ext.dr ?_ | refine Ext.drN ?_ _ | refine Ext.gr ?_ _ | refine Ext.set ?_ (by simp) _ | (refine Ext.trans' ?_ (by assumption))))) (next_any hH [1, 2] _ _ _ (HA.out.ext (by exact (by repeat (first | exact Below.refl _ _ | refine Ext.al ?_ _ | refine Ext.dr ?_ | refine Ext.drN ?_ _ | refine Ext.gr ?_ _ | refine Ext.set ?_ (by simp) _ | (refine Ext.trans' ?_ (by assumption)))))) (isI2 (by simp [go_sem]) (by simp [go_sem]) (by omega) (by omega))) (fun _ _ ⟨_, _, r, _⟩ => r) fun _ g4 hgr hr => ?_
      obtain ⟨x, rfl, -, hI⟩ := hr
      replace HI6 := Lib.hid (HI6.out.ext hgr)
      clear hgr
      rw [Y7a.out]
      rw [Y7b.out] at hI
      obtain ⟨a7, c7, rfl, -⟩ := hI.spec
      clear hI
      go_wp2_with fail
      refine callWR (W0 := U2) (g := g4) (by exact (by repeat (first | exact Below.refl _ _ | refine Ext.al ?_ _ | refine Ext.dr ?_ | refine Ext.drN ?_ _ | refine Ext.gr ?_ _ | refine Ext.set ?_ (by simp) _ | (refine Ext.trans' ?_ (by assumption))))) (wait_any hH [1, 2] _ _ _ (HA.out.ext (by exact (by repeat (first | exact Below.refl _ _ | refine Ext.al ?_ _ | refine Ext.dr ?_ | refine Ext.drN ?_ _ | refine Ext.gr ?_ _ | refine Ext.set ?_ (by simp) _ | (refine Ext.trans' ?_ (by assumption)))))) (isI2 (by simp [go_sem]) (by simp [go_sem]) (by omega) (by omega))) (fun _ _ ⟨_, _, r, _⟩ => r) fun _ g5 hgr hr => ?_
      obtain ⟨x, rfl, -, hI⟩ := hr
      replace HI6 := Lib.hid (HI6.out.ext hgr)
      clear hgr
      rw [Y8a.out]
      rw [Y8b.out] at hI
      obtain ⟨a8, c8, rfl, -⟩ := hI.spec
      have HI8 := Lib.hid hI
      clear hI

      go_wp2_with fail
      refine callWR (W0 := U2) (g := g5) (by exact (by repeat (first | exact Below.refl _ _ | refine Ext.al ?_ _ | refine Ext.dr ?_ | refine Ext.drN ?_ _ | refine Ext.gr ?_ _ | refine Ext.set ?_ (by simp) _ | (refine Ext.trans' ?_ (by assumption))))) (wait_any hH [1, 1] _ _ _ (HA.out.ext (by exact (by repeat (first | exact Below.refl _ _ | refine Ext.al ?_ _ | refine Ext.dr ?_ | refine Ext.drN ?_ _ | refine Ext.gr ?_ _ | refine Ext.set ?_ (by simp) _ | (refine Ext.trans' ?_ (by assumption)))))) (isI2 (by simp [go_sem]) (by simp [go_sem]) (by omega) (by omega))) (fun _ _ ⟨_, _, r, _⟩ => r) fun _ g6 hgr hr => ?_
      obtain ⟨x, rfl, -, hI⟩ := hr
      replace HI6 := Lib.hid (HI6.out.ext hgr)
      replace HI8 := Lib.hid (HI8.out.ext hgr)
      clear hgr
      rw [Y9a.out]
      rw [Y9b.out] at hI
      obtain ⟨a9, c9, rfl, -⟩ := hI.spec
      clear hI
      go_wp2_with fail
      refine callWR (W0 := U2) (g := g6) (by exact (by repeat (first | exact Below.refl _ _ | refine Ext.al ?_ _ | refine Ext.dr ?_ | refine Ext.drN ?_ _ | refine Ext.gr ?_ _ | refine Ext.set ?_ (by simp) _ | (refine Ext.trans' ?_ (by assumption))))) (lasts_any hH [1, 2] _ _ _ (HA.out.ext (by exact (by repeat (first | exact Below.refl _ _ | refine Ext.al ?_ _ | refine Ext.dr ?_ | refine Ext.drN ?_ _ | refine Ext.gr ?_ _ | refine Ext.set ?_ (by simp) _ | (refine Ext.trans' ?_ (by assumption)))))) (isI2 (by simp [go_sem]) (by simp [go_sem]) (by omega) (by omega))) (fun _ _ ⟨_, _, r, _⟩ => r) fun _ g7 hgr hr => ?_
      obtain ⟨x, rfl, -, hI⟩ := hr
      replace HI6 := Lib.hid (HI6.out.ext hgr)
      replace HI8 := Lib.hid (HI8.out.ext hgr)
      clear hgr
      rw [Y10a.out]
      rw [Y10b.out] at hI
      obtain ⟨a10, c10, rfl, -⟩ := hI.spec
      have HI10 := Lib.hid hI
      clear hI

      go_wp2_with fail
      refine callWR (W0 := U2) (g := g7) (by exact (by repeat (first | exact Below.refl _ _ | refine Ext.al ?_ _ | refine Ext.dr ?_ | refine Ext.drN ?_ _ | refine Ext.gr ?_ _ | refine Ext.set ?_ (by simp) _ | (refine Ext.trans' ?_ (by assumption))))) (lasts_any hH [0, 0] _ _ _ (HA.out.ext (by exact (by repeat (first | exact Below.refl _ _ | refine Ext.al ?_ _ | refine Ext.dr ?_ | refine Ext.drN ?_ _ | refine Ext.gr ?_ _ | refine Ext.set ?_ (by simp) _ | (refine Ext.trans' ?_ (by assumption)))))) (isI2 (by simp [go_sem]) (by simp [go_sem]) (by omega) (by omega))) (fun _ _ ⟨_, _, r, _⟩ => r) fun _ g8 hgr hr => ?_
      obtain ⟨x, rfl, -, hI⟩ := hr
      replace HI6 := Lib.hid (HI6.out.ext hgr)
      replace HI8 := Lib.hid (HI8.out.ext hgr)
      replace HI10 := Lib.hid (HI10.out.ext hgr)
      clear hgr
      rw [Y11a.out]
      rw [Y11b.out] at hI
      obtain ⟨a11, c11, rfl, -⟩ := hI.spec
      clear hI
      go_wp2_with fail
      refine callW (W0 := U2) (g := g8) (by exact (by repeat (first | exact Below.refl _ _ | refine Ext.al ?_ _ | refine Ext.dr ?_ | refine Ext.drN ?_ _ | refine Ext.gr ?_ _ | refine Ext.set ?_ (by simp) _ | (refine Ext.trans' ?_ (by assumption))))) (count_any hK _ _ (HC.out.ext (by exact (by repeat (first | exact Below.refl _ _ | refine Ext.al ?_ _ | refine Ext.dr ?_ | refine Ext.drN ?_ _ | refine Ext.gr ?_ _ | refine Ext.set ?_ (by simp) _ | (refine Ext.trans' ?_ (by assumption))))))) fun g9 hgr => ?_
      replace HI6 := Lib.hid (HI6.out.ext hgr)
      replace HI8 := Lib.hid (HI8.out.ext hgr)
      replace HI10 := Lib.hid (HI10.out.ext hgr)
      clear hgr
      rw [Y12.out]
      go_wp2_with fail
      refine callW (W0 := U2) (g := g9) (by exact (by repeat (first | exact Below.refl _ _ | refine Ext.al ?_ _ | refine Ext.dr ?_ | refine Ext.drN ?_ _ | refine Ext.gr ?_ _ | refine Ext.set ?_ (by simp) _ | (refine Ext.trans' ?_ (by assumption))))) (intsL_any [0, 3] [0, 3] _ _ _ (HI1.out.ext (by exact (by repeat (first | exact Below.refl _ _ | refine Ext.al ?_ _ | refine Ext.dr ?_ | refine Ext.drN ?_ _ | refine Ext.gr ?_ _ | refine Ext.set ?_ (by simp) _ | (refine Ext.trans' ?_ (by assumption)))))) (isI2 (by simp [go_sem]) (by simp [go_sem]) (by omega) (by omega))) fun g10 hgr => ?_
      replace HI6 := Lib.hid (HI6.out.ext hgr)
      replace HI8 := Lib.hid (HI8.out.ext hgr)
      replace HI10 := Lib.hid (HI10.out.ext hgr)
      clear hgr
      rw [show decide (([0, 3] : List Int) = [0, 3]) = true from rfl]
      go_wp2_with fail
      refine callW (W0 := U2) (g := g10) (by exact (by repeat (first | exact Below.refl _ _ | refine Ext.al ?_ _ | refine Ext.dr ?_ | refine Ext.drN ?_ _ | refine Ext.gr ?_ _ | refine Ext.set ?_ (by simp) _ | (refine Ext.trans' ?_ (by assumption))))) (intsL_any [0, 1] [0, 1] _ _ _ (HI6.out.ext (by exact (by repeat (first | exact Below.refl _ _ | refine Ext.al ?_ _ | refine Ext.dr ?_ | refine Ext.drN ?_ _ | refine Ext.gr ?_ _ | refine Ext.set ?_ (by simp) _ | (refine Ext.trans' ?_ (by assumption)))))) (isI2 (by simp [go_sem]) (by simp [go_sem]) (by omega) (by omega))) fun g11 hgr => ?_
      replace HI6 := Lib.hid (HI6.out.ext hgr)
      replace HI8 := Lib.hid (HI8.out.ext hgr)
      replace HI10 := Lib.hid (HI10.out.ext hgr)
      clear hgr
      rw [show decide (([0, 1] : List Int) = [0, 1]) = true from rfl]
      go_wp2_with fail
      refine callW (W0 := U2) (g := g11) (by exact (by repeat (first | exact Below.refl _ _ | refine Ext.al ?_ _ | refine Ext.dr ?_ | refine Ext.drN ?_ _ | refine Ext.gr ?_ _ | refine Ext.set ?_ (by simp) _ | (refine Ext.trans' ?_ (by assumption))))) (intsL_any [0] [0] _ _ _ (HI8.out.ext (by exact (by repeat (first | exact Below.refl _ _ | refine Ext.al ?_ _ | refine Ext.dr ?_ | refine Ext.drN ?_ _ | refine Ext.gr ?_ _ | refine Ext.set ?_ (by simp) _ | (refine Ext.trans' ?_ (by assumption)))))) (isI1 (by simp [go_sem]) (by omega) (by omega))) fun g12 hgr => ?_
      replace HI6 := Lib.hid (HI6.out.ext hgr)
      replace HI8 := Lib.hid (HI8.out.ext hgr)
      replace HI10 := Lib.hid (HI10.out.ext hgr)
      clear hgr
      rw [show decide (([0] : List Int) = [0]) = true from rfl]
      go_wp2_with fail
      refine callW (W0 := U2) (g := g12) (by exact (by repeat (first | exact Below.refl _ _ | refine Ext.al ?_ _ | refine Ext.dr ?_ | refine Ext.drN ?_ _ | refine Ext.gr ?_ _ | refine Ext.set ?_ (by simp) _ | (refine Ext.trans' ?_ (by assumption))))) (intsL_any [0] [0] _ _ _ (HI10.out.ext (by exact (by repeat (first | exact Below.refl _ _ | refine Ext.al ?_ _ | refine Ext.dr ?_ | refine Ext.drN ?_ _ | refine Ext.gr ?_ _ | refine Ext.set ?_ (by simp) _ | (refine Ext.trans' ?_ (by assumption)))))) (isI1 (by simp [go_sem]) (by omega) (by omega))) fun g13 hgr => ?_
      replace HI6 := Lib.hid (HI6.out.ext hgr)
      replace HI8 := Lib.hid (HI8.out.ext hgr)
      replace HI10 := Lib.hid (HI10.out.ext hgr)
      clear hgr
      rw [show decide (([0] : List Int) = [0]) = true from rfl]
      go_wp2_with fail
      refine callW (W0 := U2) (g := g13) (by exact (by repeat (first | exact Below.refl _ _ | refine Ext.al ?_ _ | refine Ext.dr ?_ | refine Ext.drN ?_ _ | refine Ext.gr ?_ _ | refine Ext.set ?_ (by simp) _ | (refine Ext.trans' ?_ (by assumption))))) (works_any _) fun g14 hgr => ?_
      replace HI6 := Lib.hid (HI6.out.ext hgr)
      replace HI8 := Lib.hid (HI8.out.ext hgr)
      replace HI10 := Lib.hid (HI10.out.ext hgr)
      clear hgr
      go_wp2_with fail
      go_ret
      exact ⟨rfl, HW.out.trans' (grow_below U2 g14)⟩
end Go.Proofs.Ytndgaklcnhoddaa
namespace Go.Proofs.Ytndgaklcnhoddaa
open Go.RowKit
open Go.ChangeShapes Go.WideShapes Go.ChangeAt in
set_option maxRecDepth 100000 in
theorem turnKnown_lifted (os : Os) (started : os.Started) (H : Type) (enc : TypeId × Value → H) :
    ReturnsInHanded {} Try.checked os 17 .any (Rows.turnKnownSpec.pre6 enc Try.prog Try.f17 Rows.turnKnownRow.domain false) (Rows.turnKnownSpec.post enc Try.prog Try.f17 false true false false) := by
  refine returnsInHanded_of_change (C := Try.checked) own started (by kernel_rfl) Try.func17
    (ChangeSpec.witness6 (enc := enc) (C := Try.checked) false ⟨#[], #[], []⟩ 8 (by kernel_rfl) (by kernel_rfl) (by kernel_rfl) (by kernel_rfl)) ?_
  intro W base args ds gs before hval0 hW hcnd _
  have hval : ∀ (j : Nat) t v, Try.f17.params[j]? = some t → args[j]? = some v → Value.okWide Try.prog W .any base t v := hval0
  have hW' := hW
  obtain ⟨p, q, hA0, hV, rfl, hfz, hnd⟩ := hW
  have hA : DataW.TrodAll enc Try.prog W 0 (fun _ => true) true Try.f17.params.toList args.toList ds p := hA0
  rw [Try.params17] at hA hval
  obtain ⟨rfl, rfl, rfl⟩ := trodAll_none hA
  clear hA0 hval0
  refine (turnKnown_any  W ).mono fun e W' ⟨he, hb⟩ => ?_
  subst he
  exact ⟨_, rfl, law_post laidOut (tb := 4) (hts_of (by kernel_rfl)) (by kernel_rfl) Try.underlying4 hW' rfl rfl hb⟩
theorem turnKnown_holds : Rows.TurnKnownSaid :=
  OpenClaim.holds_of_wide 17 Try.f17 rfl rfl rfl rfl rfl rfl rfl ⟨rfl, rfl, rfl, rfl, rfl⟩ rfl rfl rfl rfl rfl (by kernel_rfl) Try.func17 (by kernel_rfl)
    (of_decide_eq_true (by kernel_rfl)) (by unfold Func.isWrapper; first | (rw [if_pos (by decide +kernel)]; kernel_rfl) | (rw [if_neg (by decide +kernel)]; exact ⟨rfl, rfl⟩))
    (fun os started H enc _ => turnKnown_lifted os started H enc)
end Go.Proofs.Ytndgaklcnhoddaa
