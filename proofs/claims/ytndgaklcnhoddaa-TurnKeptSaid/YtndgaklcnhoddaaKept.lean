/-
  The statement TurnKept holds: from a safe state each window of Next leads to a safe state, whoever pulls; a state is safe if one is that is at least as full, or with more Threads; for every hall, state, windows and numbers that are handed in. No condition.
-/
import Derived.Test.YtndgaklcnhoddaaKeptM
namespace Go.Proofs.Ytndgaklcnhoddaa
open Go.RowKit Go.Shelf
def TrnP (t : List Int) (W : World) (v : Value) : Prop := ∃ r n, v = .tuple #[r, .int .i64 n, .int .i64 0] ∧ IsInts W .i64 r t
theorem TrnP.ext {t : List Int} {W W' : World} {v : Value} (e : Ext W W') (h : TrnP t W v) : TrnP t W' v := by
  obtain ⟨r, n, h1, h2⟩ := h
  exact ⟨r, n, h1, h2.ext e⟩
set_option maxRecDepth 100000 in
set_option maxHeartbeats 8000000 in
theorem turnKept_any (ks : List Int) (kv : Value) (bv : Value) (bs : List Int) (mm : Int) (lv : Value) (ls : List Int) (mv : Value) (ms : List Int) (w : World) (hv : IsInts w .i64 kv ks) (hb : IsInts w .u8 bv bs) (hw8 : ∀ x ∈ bs, (Lit.int .u8 x).wf = true) (hwm : (Lit.int .u8 mm).wf = true)
    (hl : IsInts w .u8 lv ls) (hwl : ∀ x ∈ ls, (Lit.int .u8 x).wf = true) (hm : IsInts w .u8 mv ms) (hwms : ∀ x ∈ ms, (Lit.int .u8 x).wf = true) :
    Calls Try.prog 11 #[.agg #[kv], bv, .int .u8 mm, lv, mv] w fun e W => e = .returned (.bool true) ∧ Ext w W := by
  obtain ⟨sa, cap, rfl, h1, h2, -⟩ := hv.spec
  obtain ⟨ba, bcap, rfl, h3, h4, -⟩ := hb.spec
  obtain ⟨la, lcap, rfl, h5, h6, -⟩ := hl.spec
  obtain ⟨ma, mcap, rfl, h7, h8, -⟩ := hm.spec
  have HV := Lib.hid hv
  have HB0 := Lib.hid hb
  have HL0 := Lib.hid hl
  have HM0 := Lib.hid hm
  have H8 := Lib.hid (u8s hw8)
  have H8l := Lib.hid (u8s hwl)
  have H8m := Lib.hid (u8s hwms)
  have hmm : 0 ≤ mm ∧ mm ≤ 255 := by have := bounds_u8 hwm; omega
  clear hv hb hl hm hw8 hwl hwms hwm
  go_enter Try.func11, Try.ntmps11
  go_upto_region 1 with (fail)
  obtain ⟨W0, hW0⟩ : ∃ W0, W0 = w.alloc (.cells #[.slice sa ks.length cap] 24) := ⟨_, rfl⟩
  have hE : Ext w W0 := by rw [hW0]; exact (by repeat (first | exact Below.refl _ _ | refine Ext.al ?_ _ | refine Ext.dr ?_ | refine Ext.drN ?_ _ | refine Ext.gr ?_ _ | refine Ext.set ?_ (by simp) _ | (refine Ext.trans' ?_ (by assumption))))
  have k0 : W0.cell? ⟨w.heap.size, 0, none⟩ = some (.slice sa ks.length cap) := by rw [hW0]; simp [go_sem]
  have hz : w.heap.size < W0.heap.size := World.block_lt_of_cell? _ _ k0
  have HS := Lib.hid (HV.out.ext hE)
  have HW := Lib.hid hE
  rw [← hW0]
  clear hW0 HV
  have HB := Lib.hid (HB0.out.ext hE)
  have HLE := Lib.hid (HL0.out.ext hE)
  have HMO := Lib.hid (HM0.out.ext hE)
  clear hE HB0 HL0 HM0



  go_wp2_with fail
  refine callW (W0 := W0) (g := ⟨W0, Below.refl _ _⟩) (by exact (by repeat (first | exact Below.refl _ _ | refine Ext.al ?_ _ | refine Ext.dr ?_ | refine Ext.drN ?_ _ | refine Ext.gr ?_ _ | refine Ext.set ?_ (by simp) _ | (refine Ext.trans' ?_ (by assumption))))) (fineL_any ks _ _ (HS.out.ext (by exact (by repeat (first | exact Below.refl _ _ | refine Ext.al ?_ _ | refine Ext.dr ?_ | refine Ext.drN ?_ _ | refine Ext.gr ?_ _ | refine Ext.set ?_ (by simp) _ | (refine Ext.trans' ?_ (by assumption))))))) fun g1 hgr => ?_
  clear hgr
  cases hfn : fineB ks
  · clear hfn

    go_wp2_with fail
    refine callW (W0 := W0) (g := g1) (by exact (by repeat (first | exact Below.refl _ _ | refine Ext.al ?_ _ | refine Ext.dr ?_ | refine Ext.drN ?_ _ | refine Ext.gr ?_ _ | refine Ext.set ?_ (by simp) _ | (refine Ext.trans' ?_ (by assumption))))) (works_any _) fun g2 hgr => ?_
    clear hgr
    go_wp2_with fail
    go_ret
    exact ⟨rfl, HW.out.trans' (grow_below W0 g2)⟩

  have V := Lib.hid (tval_of (of_decide_eq_true hfn))
  have n1 := V.out.n1
  have n5 := V.out.n5
  clear hfn
  by_cases hb20 : 20 < bs.length
  · have hd : decide ((20 : Int) < (bs.length : Int)) = true := decide_eq_true (by omega)
    clear hb20

    go_wp2_with fail
    refine callW (W0 := W0) (g := g1) (by exact (by repeat (first | exact Below.refl _ _ | refine Ext.al ?_ _ | refine Ext.dr ?_ | refine Ext.drN ?_ _ | refine Ext.gr ?_ _ | refine Ext.set ?_ (by simp) _ | (refine Ext.trans' ?_ (by assumption))))) (works_any _) fun g3 hgr => ?_
    clear hgr
    go_wp2_with fail
    go_ret
    exact ⟨rfl, HW.out.trans' (grow_below W0 g3)⟩

  have hd : decide ((20 : Int) < (bs.length : Int)) = false := decide_eq_false (by omega)
  clear hb20
  by_cases hb20 : 20 < ls.length
  · have hd : decide ((20 : Int) < (ls.length : Int)) = true := decide_eq_true (by omega)
    clear hb20

    go_wp2_with fail
    refine callW (W0 := W0) (g := g1) (by exact (by repeat (first | exact Below.refl _ _ | refine Ext.al ?_ _ | refine Ext.dr ?_ | refine Ext.drN ?_ _ | refine Ext.gr ?_ _ | refine Ext.set ?_ (by simp) _ | (refine Ext.trans' ?_ (by assumption))))) (works_any _) fun g4 hgr => ?_
    clear hgr
    go_wp2_with fail
    go_ret
    exact ⟨rfl, HW.out.trans' (grow_below W0 g4)⟩

  have hd : decide ((20 : Int) < (ls.length : Int)) = false := decide_eq_false (by omega)
  clear hb20
  by_cases hb20 : 20 < ms.length
  · have hd : decide ((20 : Int) < (ms.length : Int)) = true := decide_eq_true (by omega)
    clear hb20

    go_wp2_with fail
    refine callW (W0 := W0) (g := g1) (by exact (by repeat (first | exact Below.refl _ _ | refine Ext.al ?_ _ | refine Ext.dr ?_ | refine Ext.drN ?_ _ | refine Ext.gr ?_ _ | refine Ext.set ?_ (by simp) _ | (refine Ext.trans' ?_ (by assumption))))) (works_any _) fun g5 hgr => ?_
    clear hgr
    go_wp2_with fail
    go_ret
    exact ⟨rfl, HW.out.trans' (grow_below W0 g5)⟩

  have hd : decide ((20 : Int) < (ms.length : Int)) = false := decide_eq_false (by omega)
  clear hb20
  go_wp2_with fail
  refine callWR (W0 := W0) (g := g1) (by exact (by repeat (first | exact Below.refl _ _ | refine Ext.al ?_ _ | refine Ext.dr ?_ | refine Ext.drN ?_ _ | refine Ext.gr ?_ _ | refine Ext.set ?_ (by simp) _ | (refine Ext.trans' ?_ (by assumption))))) (stateL_any ks bs _ _ _ (HS.out.ext (by exact (by repeat (first | exact Below.refl _ _ | refine Ext.al ?_ _ | refine Ext.dr ?_ | refine Ext.drN ?_ _ | refine Ext.gr ?_ _ | refine Ext.set ?_ (by simp) _ | (refine Ext.trans' ?_ (by assumption)))))) (HB.out.ext (by exact (by repeat (first | exact Below.refl _ _ | refine Ext.al ?_ _ | refine Ext.dr ?_ | refine Ext.drN ?_ _ | refine Ext.gr ?_ _ | refine Ext.set ?_ (by simp) _ | (refine Ext.trans' ?_ (by assumption)))))) H8.out V.out) (fun _ _ ⟨_, _, _, r, _⟩ => r) fun _ g6 hgr hr => ?_
  obtain ⟨x, s, rfl, -, hI, hst⟩ := hr
  clear hgr
  obtain ⟨a0, cs, rfl, -⟩ := hI.spec
  have HL := Lib.hid hI
  have HST := Lib.hid hst
  clear hI hst

  go_wp2_with fail
  refine callWR (W0 := W0) (g := g6) (by exact (by repeat (first | exact Below.refl _ _ | refine Ext.al ?_ _ | refine Ext.dr ?_ | refine Ext.drN ?_ _ | refine Ext.gr ?_ _ | refine Ext.set ?_ (by simp) _ | (refine Ext.trans' ?_ (by assumption))))) (next_any ks s _ _ _ (HS.out.ext (by exact (by repeat (first | exact Below.refl _ _ | refine Ext.al ?_ _ | refine Ext.dr ?_ | refine Ext.drN ?_ _ | refine Ext.gr ?_ _ | refine Ext.set ?_ (by simp) _ | (refine Ext.trans' ?_ (by assumption)))))) (HL.out.ext (by exact (by repeat (first | exact Below.refl _ _ | refine Ext.al ?_ _ | refine Ext.dr ?_ | refine Ext.drN ?_ _ | refine Ext.gr ?_ _ | refine Ext.set ?_ (by simp) _ | (refine Ext.trans' ?_ (by assumption))))))) (fun _ _ ⟨_, _, r, _⟩ => r) fun _ g7 hgr hr => ?_
  obtain ⟨x, rfl, -, hI⟩ := hr
  replace HL := Lib.hid (HL.out.ext hgr)
  clear hgr
  obtain ⟨a1, c1, rfl, hq1, hq2, -⟩ := hI.spec
  have HI1 := Lib.hid hI
  clear hI

  rcases doomR_cases V.out HST.out with ⟨-, -, e1, e2⟩ | ⟨-, hsafe, e1, -⟩
  · rw [e1, e2]
    clear e1 e2

    go_wp2_with fail
    refine callW (W0 := W0) (g := g7) (by exact (by repeat (first | exact Below.refl _ _ | refine Ext.al ?_ _ | refine Ext.dr ?_ | refine Ext.drN ?_ _ | refine Ext.gr ?_ _ | refine Ext.set ?_ (by simp) _ | (refine Ext.trans' ?_ (by assumption))))) (works_any _) fun g8 hgr => ?_
    replace HL := Lib.hid (HL.out.ext hgr)
    replace HI1 := Lib.hid (HI1.out.ext hgr)
    clear hgr
    go_wp2_with fail
    go_ret
    exact ⟨rfl, HW.out.trans' (grow_below W0 g8)⟩

  rw [e1]
  have HSAFE := Lib.hid hsafe
  have htk := fun b x hx => turn_kept (b := b) (x := x) V.out HST.out hx
  obtain ⟨l, hl⟩ : ∃ l, l = nextL ks s := ⟨_, rfl⟩
  rw [← hl] at HI1 htk hq1 ⊢
  have HTK := Lib.hid htk
  clear e1 hsafe hl htk
  have hsl := isSt_len HST.out
  have hs5 : s.length ≤ 5 := by omega
  have hA := pow5 n5
  obtain ⟨A, hAe⟩ : ∃ A, A = 2 ^ ks.length := ⟨_, rfl⟩
  have hmin : min s.length 64 = s.length := by omega
  rw [← hAe] at hA
  obtain ⟨O, hO⟩ : ∃ O : Nat, O = mm.toNat % A := ⟨_, rfl⟩
  have hOA : O < A := by rw [hO]; exact Nat.mod_lt _ (by omega)
  have hmt : Int.tmod mm (A : Int) = (O : Int) := by
    rw [Int.tmod_eq_emod_of_nonneg (by omega), hO]
    conv => lhs; rw [show mm = (mm.toNat : Int) by omega]
    rfl
  have hme : mm % (A : Int) = (O : Int) := by rw [← hmt, Int.tmod_eq_emod_of_nonneg (by omega)]
  have hAn : ((A : Int) == 0) = false := by rw [beq_eq_false_iff_ne]; omega
  have hAn2 : ¬ ((A : Int) = 0) := by omega
  have hw1 : IntKind.i64.wrap mm = mm := IntWalk.i64_in _ (by omega)
  have hw3 : IntKind.i64.wrap (O : Int) = (O : Int) := IntWalk.i64_in _ (by omega)
  have hOp : O < 2 ^ ks.length := by rw [← hAe]; exact hOA
  have HOP := Lib.hid hOp
  have HSL := Lib.hid hsl
  have hshw : IntKind.i64.wrap (2 ^ s.length) = (A : Int) := by rw [shlw5 hs5, hsl, hAe]
  have hbits := fun w => bitsR5_any ks.length O (by omega) HOP.out w
  obtain ⟨P, hP⟩ : ∃ P, P = bitsL ks.length O := ⟨_, rfl⟩
  have htk2 := fun x hx => HTK.out O x hx
  rw [← hP] at hbits htk2
  have HBT := Lib.hid hbits
  have HT2 := Lib.hid htk2
  clear hO hAe hOp hsl hbits hP htk2 HTK
  go_wp2_with fail
  refine callWR (W0 := W0) (g := g7) (by exact (by repeat (first | exact Below.refl _ _ | refine Ext.al ?_ _ | refine Ext.dr ?_ | refine Ext.drN ?_ _ | refine Ext.gr ?_ _ | refine Ext.set ?_ (by simp) _ | (refine Ext.trans' ?_ (by assumption))))) (HBT.out _) (fun _ _ ⟨_, _, r, _⟩ => r) fun _ g9 hgr hr => ?_
  obtain ⟨pv, rfl, -, hI⟩ := hr
  replace HL := Lib.hid (HL.out.ext hgr)
  replace HI1 := Lib.hid (HI1.out.ext hgr)
  clear hgr
  obtain ⟨a3, c3, rfl, -⟩ := hI.spec
  have HP := Lib.hid hI
  clear hI hshw hmin hmt hme hAn hAn2 hw1 hw3 hOA

  go_upto_region 8 with (fail)
  obtain ⟨U, hU⟩ : ∃ zz9, zz9 = (grow W0 g9) := ⟨_, rfl⟩
  have eU : Ext W0 U := by rw [hU]; exact (by repeat (first | exact Below.refl _ _ | refine Ext.al ?_ _ | refine Ext.dr ?_ | refine Ext.drN ?_ _ | refine Ext.gr ?_ _ | refine Ext.set ?_ (by simp) _ | (refine Ext.trans' ?_ (by assumption))))
  have eUc : Ext (grow W0 g9) U := by rw [hU]; exact (by repeat (first | exact Below.refl _ _ | refine Ext.al ?_ _ | refine Ext.dr ?_ | refine Ext.drN ?_ _ | refine Ext.gr ?_ _ | refine Ext.set ?_ (by simp) _ | (refine Ext.trans' ?_ (by assumption))))
  replace k0 := cell_ext eU k0
  replace HS := Lib.hid (HS.out.ext eU)
  replace HB := Lib.hid (HB.out.ext eU)
  replace HLE := Lib.hid (HLE.out.ext eU)
  replace HMO := Lib.hid (HMO.out.ext eU)
  replace HL := Lib.hid (HL.out.ext eUc)
  replace HI1 := Lib.hid (HI1.out.ext eUc)
  replace HP := Lib.hid (HP.out.ext eUc)
  replace HW := Lib.hid (HW.out.trans' eU)
  rw [← hU]
  replace hz := World.block_lt_of_cell? _ _ k0
  clear hU eU eUc
  simp only at hz
  go_wp2_with fail
  go_loopw [15] (fun iv W => ∃ k : Nat, k ≤ l.length ∧ iv = .int .i64 k ∧ Ext U W) (fun iv _ => l.length - (intOf iv).toNat)
  case atStart => exact ⟨0, by omega, rfl, Below.refl _ _⟩
  case round =>
    obtain ⟨k, hk, rfl, hE⟩ := hrel
    have HE := Lib.hid hE
    have k1 := cell_ext hE k0
    have hz1 := World.block_lt_of_cell? _ _ k1
    simp only at hz1
    have HSr := Lib.hid (HS.out.ext hE)
    have HLr := Lib.hid (HL.out.ext hE)
    have HPr := Lib.hid (HP.out.ext hE)
    have HR := Lib.hid (HW.out.trans' hE)
    by_cases hlt : k < l.length
    · have hki : (k : Int) < (l.length : Int) := by omega
      obtain ⟨t, x1, x2, x3, x4, x5⟩ := HT2.out _ (List.getElem_mem hlt)
      obtain ⟨b, off, rfl, hbz, HC⟩ := HI1.out.at_all (by omega)
      have c0 := HC wr hE k hlt
      rw [← gt_get hlt] at c0
      obtain ⟨X, hX⟩ : ∃ X, X = l[k] := ⟨_, rfl⟩
      rw [← hX] at c0 x1 x2 x5
      have hcz := World.block_lt_of_cell? _ _ c0
      simp only at hcz
      have cw := fun W hs => isWindow_any ks X (.slice sa ks.length cap) W hs
      rw [x5] at cw
      have CW := Lib.hid cw
      have X1 := Lib.hid x1
      have X2 := Lib.hid x2
      have X3 := Lib.hid x3
      have X4 := Lib.hid x4
      clear cw x1 x2 x3 x4 x5 hX HC hE
      go_upto_region 11 with (fail)
      refine wp_region_grow (by kernel_rfl) (by kernel_rfl) ?_
      repeat (first | go_big_quiet_step ((go_at_call 51; exact grow_call (CW.out _ (HSr.out.ext (grow_below _ _))))) | quiet_step ((go_at_call 51; exact grow_call (CW.out _ (HSr.out.ext (grow_below _ _))))))
      refine wpQuiet_nil ?_
      rintro _ ⟨g, rfl⟩
      go_upto_region 13 with (fail)
      obtain ⟨Y, hY⟩ : ∃ Y, Y = grow wr g := ⟨_, rfl⟩
      have hEY : Ext wr Y := by rw [hY]; exact grow_below _ _
      rw [← hY]
      have k2 := cell_ext hEY k1
      have c2 := cell_ext hEY c0
      have HSY := Lib.hid (HSr.out.ext hEY)
      have HLY := Lib.hid (HLr.out.ext hEY)
      have HPY := Lib.hid (HPr.out.ext hEY)
      have HEY := Lib.hid (HE.out.trans' hEY)
      have hyz := World.block_lt_of_cell? _ _ k2
      have hyc := World.block_lt_of_cell? _ _ c2
      simp only at hyz hyc
      clear hY hEY k1 c0
      refine wp_region_rove (Y.heap.size) (Nat.le_refl _)
        [sqV (.agg #[.slice sa ks.length cap]),
         sqV (.slice a0 s.length cs),
         sqV (.slice a3 P.length c3),
         sqV (.slice (some ⟨b, off, none⟩) l.length c1),
         sqV (.int .i64 k),
         sqV (.pointer (some ⟨b, off + k, none⟩)),
         sqV (.int .i64 X),
         sqW (fun v W => TrnP t W v) (fun _ _ _ h e => TrnP.ext e h),
         sqW (fun v W => TrnP t W v) (fun _ _ _ h e => TrnP.ext e h),
         sqW (fun v W => IsInts W .i64 v t) (fun _ _ _ h e => IsInts.ext e h),
         sqW (fun v W => True) (fun _ _ _ h _ => h),
         sqV (.int .i64 0),
         sqW (fun v W => IsInts W .i64 v t) (fun _ _ _ h e => IsInts.ext e h),
         sqW (fun v W => True) (fun _ _ _ h _ => h),
         sqV (.int .i64 0)]
        [true, true, true, true, true, true, true, false, false, false, false, true, false, false, true] [false, false, false, false, false, false, false, false, false, false, false, false, false, false, false] [true, true, true, true, true, true, true, true, true, true, true, true, true, true, true] [true, true, true, true, true, true, true, true, true, true, true, true, true, true, true]
        (by kernel_rfl) (by kernel_rfl) (by decide +kernel) (by decide +kernel) (by decide +kernel) rfl ⟨rfl, rfl⟩ ⟨?s0, ?s1, ?s2, ?s3, ?s4, ?s5, ?s6, ?s7, ?s8, ?s9, ?s10, ?s11, ?s12, ?s13, ?s14, trivial⟩ [some 87, some 88, some 89, some 90, some 91, some 92, some 93, some 94, some 86, some 95, some 96, some 97, some 16, some 17, some 18] rfl rfl ?send
      case s0 =>
        intro val ρ W hE hz hd hA hx
        have o0 : ρ (.tmp 5) = .pointer (some ⟨w.heap.size, 0, none⟩) := hA.old 5 (by decide)
        have f_k2 := cell_below hE (by simp only; omega) k2
        clear hd
        exact runq_val (W' := W) (by simp [execOp, o0, f_k2, go_sem]) (Below.refl _ _) rfl
      case s1 =>
        intro val ρ W hE hz hd hA hx
        have o0 : ρ (.tmp 11) = .slice a0 s.length cs := hA.old 11 (by decide)
        clear hd
        exact runq_val (W' := W) (by simp [execOp, o0, go_sem]) (Below.refl _ _) rfl
      case s2 =>
        intro val ρ W hE hz hd hA hx
        have o0 : ρ (.tmp 14) = .slice a3 P.length c3 := hA.old 14 (by decide)
        clear hd
        exact runq_val (W' := W) (by simp [execOp, o0, go_sem]) (Below.refl _ _) rfl
      case s3 =>
        intro val ρ W hE hz hd hA hx
        have o0 : ρ (.tmp 12) = .slice (some ⟨b, off, none⟩) l.length c1 := hA.old 12 (by decide)
        clear hd
        exact runq_val (W' := W) (by simp [execOp, o0, go_sem]) (Below.refl _ _) rfl
      case s4 =>
        intro val ρ W hE hz hd hA hx
        have o0 : ρ (.tmp 15) = .int .i64 k := hA.old 15 (by decide)
        clear hd
        exact runq_val (W' := W) (by simp [execOp, o0, go_sem]) (Below.refl _ _) rfl
      case s5 =>
        intro val ρ W hE hz hd hA hx
        have d3 : ρ (.tmp 90) = .slice (some ⟨b, off, none⟩) l.length c1 := (hA.dep 3 (by decide) 90 rfl).trans (hd 3 (by decide))
        have d4 : ρ (.tmp 91) = .int .i64 k := (hA.dep 4 (by decide) 91 rfl).trans (hd 4 (by decide))
        clear hd
        exact runq_val (W' := W) (by simp [execOp, d3, d4, hki, go_sem]) (Below.refl _ _) rfl
      case s6 =>
        intro val ρ W hE hz hd hA hx
        have d5 : ρ (.tmp 92) = .pointer (some ⟨b, off + k, none⟩) := (hA.dep 5 (by decide) 92 rfl).trans (hd 5 (by decide))
        have f_c2 := cell_below hE (by simp only; omega) c2
        clear hd
        exact runq_val (W' := W) (by simp [execOp, d5, f_c2, go_sem]) (Below.refl _ _) rfl
      case s14 =>
        intro val ρ W hE hz hd hA hx
        have d11 : ρ (.tmp 97) = .int .i64 0 := (hA.dep 11 (by decide) 97 rfl).trans (hd 11 (by decide))
        clear hd
        exact runq_val (W' := W) (by simp [execOp, d11, go_sem]) (Below.refl _ _) rfl
      case s7 =>
        intro val ρ W hE hz hd hA hx
        have d0 : ρ (.tmp 87) = .agg #[.slice sa ks.length cap] := (hA.dep 0 (by decide) 87 rfl).trans (hd 0 (by decide))
        have d1 : ρ (.tmp 88) = .slice a0 s.length cs := (hA.dep 1 (by decide) 88 rfl).trans (hd 1 (by decide))
        have d2 : ρ (.tmp 89) = .slice a3 P.length c3 := (hA.dep 2 (by decide) 89 rfl).trans (hd 2 (by decide))
        have d6 : ρ (.tmp 93) = .int .i64 X := (hA.dep 6 (by decide) 93 rfl).trans (hd 6 (by decide))
        clear hd
        refine runq_call 20 _ _ rfl #[.agg #[.slice sa ks.length cap], .slice a0 s.length cs, .slice a3 P.length c3, .int .i64 X] (hA.func _) (by simp [d0, d1, d2, d6]) (fun args W => Try.call20 args W) ((turn_any ks s P X _ _ _ W (HSY.out.ext hE) (HLY.out.ext hE) (HPY.out.ext hE)).mono ?_)
        rintro e w' ⟨r, rfl, hb, hi⟩
        rw [X1.out]
        exact ⟨_, rfl, hb, r, _, rfl, by rw [← X2.out]; exact hi⟩
      case s8 =>
        intro val ρ W hE hz hd hA hx
        obtain ⟨r, n, h1, h2⟩ : TrnP t W (val 7) := hd 7 (by decide)
        have dd : ρ (.tmp 94) = .tuple #[r, .int .i64 n, .int .i64 0] := (hA.dep 7 (by decide) 94 rfl).trans h1
        exact runq_val (W' := W) (v := .tuple #[r, .int .i64 n, .int .i64 0]) (by simp [execOp, dd, go_sem]) (Below.refl _ _) ⟨r, n, rfl, h2⟩
      case s9 =>
        intro val ρ W hE hz hd hA hx
        obtain ⟨r, n, h1, h2⟩ : TrnP t W (val 8) := hd 8 (by decide)
        have dd : ρ (.tmp 86) = .tuple #[r, .int .i64 n, .int .i64 0] := (hA.dep 8 (by decide) 86 rfl).trans h1
        exact runq_val (W' := W) (v := r) (by simp [execOp, dd, go_sem]) (Below.refl _ _) h2
      case s10 =>
        intro val ρ W hE hz hd hA hx
        obtain ⟨r, n, h1, h2⟩ : TrnP t W (val 8) := hd 8 (by decide)
        have dd : ρ (.tmp 86) = .tuple #[r, .int .i64 n, .int .i64 0] := (hA.dep 8 (by decide) 86 rfl).trans h1
        exact runq_val (W' := W) (v := .int .i64 n) (by simp [execOp, dd, go_sem]) (Below.refl _ _) trivial
      case s11 =>
        intro val ρ W hE hz hd hA hx
        obtain ⟨r, n, h1, h2⟩ : TrnP t W (val 8) := hd 8 (by decide)
        have dd : ρ (.tmp 86) = .tuple #[r, .int .i64 n, .int .i64 0] := (hA.dep 8 (by decide) 86 rfl).trans h1
        exact runq_val (W' := W) (v := .int .i64 0) (by simp [execOp, dd, go_sem]) (Below.refl _ _) rfl
      case s12 =>
        intro val ρ W hE hz hd hA hx
        have q9 : IsInts W .i64 (val 9) t := hd 9 (by decide)
        have d9 : ρ (.tmp 95) = val 9 := hA.dep 9 (by decide) 95 rfl
        exact runq_val (W' := W) (v := val 9) (by simp [execOp, d9, go_sem]) (Below.refl _ _) q9
      case s13 =>
        intro val ρ W hE hz hd hA hx
        have d10 : ρ (.tmp 96) = val 10 := hA.dep 10 (by decide) 96 rfl
        exact runq_val (W' := W) (v := val 10) (by simp [execOp, d10, go_sem]) (Below.refl _ _) trivial
      case send =>
        intro val WW hE hzz hv
        obtain ⟨-, -, -, -, -, -, -, -, -, -, -, -, q12, -, q14, -⟩ := hv
        have q14' : val 14 = .int .i64 0 := q14
        replace q12 : IsInts WW .i64 (val 12) t := q12
        obtain ⟨xa, xc, e12, -⟩ := q12.spec
        rw [e12] at q12
        simp only [putD, e12, q14']
        go_frame
        have hEW : Ext Y WW := hE
        have k3 := cell_ext hEW k2
        have hz3 := World.block_lt_of_cell? _ _ k3
        simp only at hz3
        have HSW := Lib.hid (HSY.out.ext hEW)
        have HXW := Lib.hid q12
        have HEW := Lib.hid (HEY.out.trans' hEW)
        clear hE hzz hEW q12 q14 q14' e12 k2 c2





        go_wp2_with fail
        refine callW (W0 := WW) (g := ⟨WW, Below.refl _ _⟩) (by exact (by repeat (first | exact Below.refl _ _ | refine Ext.al ?_ _ | refine Ext.dr ?_ | refine Ext.drN ?_ _ | refine Ext.gr ?_ _ | refine Ext.set ?_ (by simp) _ | (refine Ext.trans' ?_ (by assumption))))) (statedR_any ks t _ _ _ (HSW.out.ext (by exact (by repeat (first | exact Below.refl _ _ | refine Ext.al ?_ _ | refine Ext.dr ?_ | refine Ext.drN ?_ _ | refine Ext.gr ?_ _ | refine Ext.set ?_ (by simp) _ | (refine Ext.trans' ?_ (by assumption)))))) (HXW.out.ext (by exact (by repeat (first | exact Below.refl _ _ | refine Ext.al ?_ _ | refine Ext.dr ?_ | refine Ext.drN ?_ _ | refine Ext.gr ?_ _ | refine Ext.set ?_ (by simp) _ | (refine Ext.trans' ?_ (by assumption))))))) fun g1 hgr => ?_
        clear hgr
        rw [stErr_of V.out X3.out]
        go_wp2_with fail
        refine callWR (W0 := WW) (g := g1) (by exact (by repeat (first | exact Below.refl _ _ | refine Ext.al ?_ _ | refine Ext.dr ?_ | refine Ext.drN ?_ _ | refine Ext.gr ?_ _ | refine Ext.set ?_ (by simp) _ | (refine Ext.trans' ?_ (by assumption))))) (doomF_any ks t _ _ _ (HSW.out.ext (by exact (by repeat (first | exact Below.refl _ _ | refine Ext.al ?_ _ | refine Ext.dr ?_ | refine Ext.drN ?_ _ | refine Ext.gr ?_ _ | refine Ext.set ?_ (by simp) _ | (refine Ext.trans' ?_ (by assumption)))))) (HXW.out.ext (by exact (by repeat (first | exact Below.refl _ _ | refine Ext.al ?_ _ | refine Ext.dr ?_ | refine Ext.drN ?_ _ | refine Ext.gr ?_ _ | refine Ext.set ?_ (by simp) _ | (refine Ext.trans' ?_ (by assumption))))))) (fun _ _ ⟨_, _, _, r, _⟩ => r) fun _ g2 hgr hr => ?_
        obtain ⟨x, dl, rfl, -, hI, -, -⟩ := hr
        clear hgr
        obtain ⟨a5, c5, rfl, -, -⟩ := hI.spec
        clear hI
        rw [X4.out]
        go_wp2_with fail
        go_roundw
        case rel =>
          exact ⟨k + 1, by omega, by go_num, HEW.out.trans' (grow_below WW _)⟩
        case measure => simp [intOf]; omega

    · have hki : ¬ ((k : Int) < (l.length : Int)) := by omega
      have hs1 : 1 ≤ s.length := by have := HSL.out; omega
      clear hE
      obtain ⟨R0, hR0⟩ : ∃ R0, R0 = wr := ⟨_, rfl⟩
      subst hR0
      obtain ⟨sb, so, rfl, hsbz, HSC0⟩ := HLr.out.at_all hs1
      have HSC := Lib.hid HSC0
      obtain ⟨kb, ko, rfl, hkbz, HKC0⟩ := HSr.out.at_all n1
      have HKC := Lib.hid HKC0
      have HK1 := Lib.hid k1
      clear HSC0 HKC0
      go_wp2_with (at_builtin; refine wpNew rfl (.tmp 114) (.tmp 115) elInt rfl R0.heap.size rfl (isNew _ _ _ _ (Nat.le_refl _)) rfl (s.map iRow) ints_len (HLr.out.ext (by exact (by repeat (first | exact Below.refl _ _ | refine Ext.al ?_ _ | refine Ext.dr ?_ | refine Ext.drN ?_ _ | refine Ext.gr ?_ _ | refine Ext.set ?_ (by simp) _ | (refine Ext.trans' ?_ (by assumption)))))) ints_one (by simp; omega) (by simp) ?_)
      intro v' W1 hown hE1
      obtain ⟨g, gc, rfl, hg1, hg2, hgB, hN⟩ := hown.cellsN (by omega)
      have hE01 : Ext R0 W1 := Ext.trans' (by exact (by repeat (first | exact Below.refl _ _ | refine Ext.al ?_ _ | refine Ext.dr ?_ | refine Ext.drN ?_ _ | refine Ext.gr ?_ _ | refine Ext.set ?_ (by simp) _ | (refine Ext.trans' ?_ (by assumption))))) hE1
      have k2 := cell_ext hE01 k1
      have hz2 := World.block_lt_of_cell? _ _ k2
      simp only at hz2
      have HS1 := Lib.hid (HSr.out.ext hE01)
      have HL1 := Lib.hid (HLr.out.ext hE01)
      have HN := Lib.hid hN
      have HE01 := Lib.hid hE01
      have hgl := hN.lt
      clear hown hE1 hN hE01 k1
      go_wp2_with (at_builtin; refine wpNew rfl (.tmp 117) (.tmp 119) elInt rfl W1.heap.size rfl (isNew _ _ _ _ (Nat.le_refl _)) rfl (ks.map iRow) ints_len (HS1.out.ext (by exact (by repeat (first | exact Below.refl _ _ | refine Ext.al ?_ _ | refine Ext.dr ?_ | refine Ext.drN ?_ _ | refine Ext.gr ?_ _ | refine Ext.set ?_ (by simp) _ | (refine Ext.trans' ?_ (by assumption)))))) ints_one (by simp; omega) (by simp) ?_)
      intro v'' W2 hown hE2
      obtain ⟨q, qc, rfl, hy1, hy2, hqB, hQ⟩ := hown.cellsN (by omega)
      have hE12 : Ext W1 W2 := Ext.trans' (by exact (by repeat (first | exact Below.refl _ _ | refine Ext.al ?_ _ | refine Ext.dr ?_ | refine Ext.drN ?_ _ | refine Ext.gr ?_ _ | refine Ext.set ?_ (by simp) _ | (refine Ext.trans' ?_ (by assumption))))) hE2
      have k3 := cell_ext hE12 k2
      have HS2 := Lib.hid (HS1.out.ext hE12)
      have HL2 := Lib.hid (HL1.out.ext hE12)
      have HN2 := Lib.hid (HN.out.of_heap (hE12.block _ hgl))
      have HQ2 := Lib.hid hQ
      have HE2 := Lib.hid (HE01.out.trans' hE12)
      have hql := hQ.lt
      clear hown hE2 hQ hE12 k2 HN HS1 HL1 HE01
      go_upto_region 21 with (fail)
      obtain ⟨h, hh⟩ : ∃ h, h = W2.heap.size := ⟨_, rfl⟩
      obtain ⟨W3, hW3⟩ : ∃ W3, W3 = W2.alloc (.cells #[.slice (some ⟨q, 0, none⟩) ks.length qc] 24) := ⟨_, rfl⟩
      have hE23 : Ext W2 W3 := by rw [hW3]; exact (by repeat (first | exact Below.refl _ _ | refine Ext.al ?_ _ | refine Ext.dr ?_ | refine Ext.drN ?_ _ | refine Ext.gr ?_ _ | refine Ext.set ?_ (by simp) _ | (refine Ext.trans' ?_ (by assumption))))
      have x0 : W3.cell? ⟨h, 0, none⟩ = some (.slice (some ⟨q, 0, none⟩) ks.length qc) := by rw [hW3, hh]; simp [go_sem]
      have hgq : g ≠ q := by omega
      have hgh : g ≠ h := by have := HE2.out.size; omega
      have hqh : q ≠ h := by omega
      have hge : R0.heap.size ≤ g := by omega
      have hqe : R0.heap.size ≤ q := by have := HE2.out.size; omega
      rw [← hW3, ← hh]
      have k4 := cell_ext hE23 k3
      have HN3 := Lib.hid (HN2.out.of_heap (hE23.block _ (by have := HE2.out.size; omega)))
      have HQ3 := Lib.hid (HQ2.out.of_heap (hE23.block _ hql))
      have HE3 := Lib.hid (HE2.out.trans' hE23)
      clear hW3 hh hE23 k3 HN2 HQ2 HE2 HS2 HL2
      go_wp2_with fail
      go_loopw [21] (fun iv W => ∃ (j : Nat) (f e : Nat → Int), j ≤ s.length ∧ iv = .int .i64 j ∧ NumB W g s.length f ∧ NumB W q ks.length e ∧ (∀ i, i < s.length → 0 ≤ f i ∧ f i ≤ gt s i) ∧ (∀ i, i < ks.length → gt ks i ≤ e i ∧ e i ≤ 12) ∧ W.cell? ⟨h, 0, none⟩ = some (.slice (some ⟨q, 0, none⟩) ks.length qc) ∧ Ext R0 W) (fun iv _ => s.length - (intOf iv).toNat)
      case atStart => exact ⟨0, _, _, by omega, rfl, HN3.out, HQ3.out, fun i hi => ⟨(isSt_at HST.out i (by have := HSL.out; omega)).1, Int.le_refl _⟩, fun i hi => ⟨Int.le_refl _, (V.out.at_ i hi).2⟩, x0, HE3.out⟩
      case round =>
        obtain ⟨j, f, e, hj, rfl, hnf, hne, hf, he, x1, hE⟩ := hrel
        have HNF := Lib.hid hnf
        have HNE := Lib.hid hne
        have HF := Lib.hid hf
        have HEB := Lib.hid he
        have HEr := Lib.hid hE
        by_cases hlt : j < s.length
        · have hji : (j : Int) < (s.length : Int) := by omega
          by_cases hls : 0 < ls.length
          · have hdl : decide ((0 : Int) < (ls.length : Int)) = true := decide_eq_true (by omega)
            have hdl2 : decide (0 < ls.length) = true := decide_eq_true hls
            obtain ⟨lb, lo, rfl, hlz, hlc⟩ := HLE.out.at_allK hls
            obtain ⟨J, hJ⟩ : ∃ J, J = j % ls.length := ⟨_, rfl⟩
            have hJl : J < ls.length := by rw [hJ]; exact Nat.mod_lt _ hls
            have hJi : (J : Int) < (ls.length : Int) := by omega
            have c0 := hlc wr (HE.out.trans' hE) J hJl
            have hu8 := gt_u8 H8l.out hJl
            have d0 := HSC.out wr hE j hlt
            have hxb := hf j hlt
            have hxs := isSt_at HST.out j (by have := HSL.out; omega)
            obtain ⟨u, hu⟩ : ∃ u, u = gt ls J := ⟨_, rfl⟩
            obtain ⟨x, hx⟩ : ∃ x, x = gt s j := ⟨_, rfl⟩
            have hxs : 0 ≤ x ∧ x ≤ gt ks j := by rw [hx]; exact hxs
            have hx12 : x ≤ 12 := by have := V.out.at_ j (by have := HSL.out; omega); unfold gt at hxs; omega
            rw [← hu] at c0 hu8
            rw [← hx] at d0
            have hcz := World.block_lt_of_cell? _ _ c0
            have hdz := World.block_lt_of_cell? _ _ d0
            simp only at hcz hdz
            have hmd : (j : Int) % (ls.length : Int) = (J : Int) := by rw [hJ]; rfl
            have hmt : Int.tmod (j : Int) (ls.length : Int) = (J : Int) := by rw [← hmd]; exact Int.tmod_eq_emod_of_nonneg (by omega)
            have hwJ : IntKind.i64.wrap (J : Int) = (J : Int) := IntWalk.i64_in _ (by omega)
            have hnn2 : ¬ ((ls.length : Int) = 0) := by omega
            have hnn3 : ¬ ls = [] := fun h => by rw [h] at hls; simp at hls
            obtain ⟨m4, hm4⟩ : ∃ m4, m4 = u % 4 := ⟨_, rfl⟩
            have hm4b : 0 ≤ m4 ∧ m4 ≤ 3 := by omega
            have hm4t : Int.tmod u 4 = m4 := by rw [hm4]; exact Int.tmod_eq_emod_of_nonneg (by omega)
            have hwu : IntKind.i64.wrap u = u := IntWalk.i64_in _ (by omega)
            have hwm : IntKind.i64.wrap m4 = m4 := IntWalk.i64_in _ (by omega)
            have hwd : IntKind.i64.wrap (x - m4) = x - m4 := IntWalk.i64_in _ (by omega)
            obtain ⟨y, hy⟩ : ∃ y, y = if m4 < x then x - m4 else 0 := ⟨_, rfl⟩
            have hyb : 0 ≤ y ∧ y ≤ x := by rw [hy]; split <;> omega
            have hye : (if m4 < x then x - m4 else 0) = y := hy.symm
            have HYB := Lib.hid hyb
            have HX := Lib.hid hx
            have g0 := hnf.cell j hlt
            have gf := hnf.free j
            have gz := hnf.lt
            clear hnf hne hf he hE hlc hJ hu hx hmd hm4 hy
            go_upto_region 25 with (fail)
            obtain ⟨Z, hZ⟩ : ∃ Z, Z = wr := ⟨_, rfl⟩
            subst hZ
            refine wp_region_rove_tail rfl rfl (by kernel_rfl) (Z.heap.size) (Nat.le_refl _)
              [sqV (.slice (some ⟨g, 0, none⟩) s.length gc),
               sqV (.int .i64 j),
               sqV (.slice (some ⟨sb, so, none⟩) s.length cs),
               sqV (.int .i64 j),
               sqV (.pointer (some ⟨sb, so + j, none⟩)),
               sqV (.int .i64 x),
               sqV (.slice (some ⟨lb, lo, none⟩) ls.length lcap),
               sqV (.int .i64 j),
               sqV (.slice (some ⟨lb, lo, none⟩) ls.length lcap),
               sqV (.int .i64 ls.length),
               sqV (.int .i64 J),
               sqV (.pointer (some ⟨lb, lo + J, none⟩)),
               sqV (.int .u8 u),
               sqV (.int .i64 u),
               sqV (.int .i64 m4),
               sqV (.int .i64 (x - m4)),
               sqV (.int .i64 y),
               sqV (.pointer (some ⟨g, j, none⟩))]
              [true, true, true, true, true, true, true, true, true, true, true, true, true, true, true, true, true, true] [false, false, false, false, false, false, false, false, false, false, false, false, false, false, false, false, false, false] [true, true, true, true, true, true, true, true, true, true, true, true, true, true, true, true, true, true] [true, true, true, true, true, true, true, true, true, true, true, true, true, true, true, true, true, true]
              (by kernel_rfl) (by kernel_rfl) (by decide +kernel) (by decide +kernel) (by decide +kernel) rfl ⟨rfl, rfl⟩ ⟨?s0, ?s1, ?s2, ?s3, ?s4, ?s5, ?s6, ?s7, ?s8, ?s9, ?s10, ?s11, ?s12, ?s13, ?s14, ?s15, ?s16, ?s17, trivial⟩ [some 131, some 132, some 133, some 134, some 135, some 136, some 137, some 138, some 139, some 140, some 141, some 142, some 143, some 144, some 145, some 146, some 147, some 148] rfl rfl ?send
            case s0 =>
              intro val ρ W hE hz hd hA hx
              have o0 : ρ (.tmp 19) = .slice (some ⟨g, 0, none⟩) s.length gc := hA.old 19 (by decide)
              clear hd
              exact runq_val (W' := W) (by simp [execOp, o0, go_sem]) (Below.refl _ _) rfl
            case s1 =>
              intro val ρ W hE hz hd hA hx
              have o0 : ρ (.tmp 21) = .int .i64 j := hA.old 21 (by decide)
              clear hd
              exact runq_val (W' := W) (by simp [execOp, o0, go_sem]) (Below.refl _ _) rfl
            case s2 =>
              intro val ρ W hE hz hd hA hx
              have o0 : ρ (.tmp 11) = .slice (some ⟨sb, so, none⟩) s.length cs := hA.old 11 (by decide)
              clear hd
              exact runq_val (W' := W) (by simp [execOp, o0, go_sem]) (Below.refl _ _) rfl
            case s3 =>
              intro val ρ W hE hz hd hA hx
              have o0 : ρ (.tmp 21) = .int .i64 j := hA.old 21 (by decide)
              clear hd
              exact runq_val (W' := W) (by simp [execOp, o0, go_sem]) (Below.refl _ _) rfl
            case s4 =>
              intro val ρ W hE hz hd hA hx
              have d2 : ρ (.tmp 133) = .slice (some ⟨sb, so, none⟩) s.length cs := (hA.dep 2 (by decide) 133 rfl).trans (hd 2 (by decide))
              have d3 : ρ (.tmp 134) = .int .i64 j := (hA.dep 3 (by decide) 134 rfl).trans (hd 3 (by decide))
              clear hd
              exact runq_val (W' := W) (by simp [execOp, d2, d3, hji, go_sem]) (Below.refl _ _) rfl
            case s5 =>
              intro val ρ W hE hz hd hA hx
              have d4 : ρ (.tmp 135) = .pointer (some ⟨sb, so + j, none⟩) := (hA.dep 4 (by decide) 135 rfl).trans (hd 4 (by decide))
              have f_d0 := cell_below hE (by simp only; omega) d0
              clear hd
              exact runq_val (W' := W) (by simp [execOp, d4, f_d0, go_sem]) (Below.refl _ _) rfl
            case s6 =>
              intro val ρ W hE hz hd hA hx
              have o0 : ρ (.tmp 3) = .slice (some ⟨lb, lo, none⟩) ls.length lcap := hA.old 3 (by decide)
              clear hd
              exact runq_val (W' := W) (by simp [execOp, o0, go_sem]) (Below.refl _ _) rfl
            case s7 =>
              intro val ρ W hE hz hd hA hx
              have o0 : ρ (.tmp 21) = .int .i64 j := hA.old 21 (by decide)
              clear hd
              exact runq_val (W' := W) (by simp [execOp, o0, go_sem]) (Below.refl _ _) rfl
            case s8 =>
              intro val ρ W hE hz hd hA hx
              have o0 : ρ (.tmp 3) = .slice (some ⟨lb, lo, none⟩) ls.length lcap := hA.old 3 (by decide)
              clear hd
              exact runq_val (W' := W) (by simp [execOp, o0, go_sem]) (Below.refl _ _) rfl
            case s9 =>
              intro val ρ W hE hz hd hA hx
              have d8 : ρ (.tmp 139) = .slice (some ⟨lb, lo, none⟩) ls.length lcap := (hA.dep 8 (by decide) 139 rfl).trans (hd 8 (by decide))
              clear hd
              exact runq_val (W' := W) (by simp [execOp, d8, go_sem]) (Below.refl _ _) rfl
            case s10 =>
              intro val ρ W hE hz hd hA hx
              have d7 : ρ (.tmp 138) = .int .i64 j := (hA.dep 7 (by decide) 138 rfl).trans (hd 7 (by decide))
              have d9 : ρ (.tmp 140) = .int .i64 ls.length := (hA.dep 9 (by decide) 140 rfl).trans (hd 9 (by decide))
              clear hd
              exact runq_val (W' := W) (by simp [execOp, d7, d9, hmt, hwJ, hnn2, hnn3, go_sem]) (Below.refl _ _) rfl
            case s11 =>
              intro val ρ W hE hz hd hA hx
              have d6 : ρ (.tmp 137) = .slice (some ⟨lb, lo, none⟩) ls.length lcap := (hA.dep 6 (by decide) 137 rfl).trans (hd 6 (by decide))
              have d10 : ρ (.tmp 141) = .int .i64 J := (hA.dep 10 (by decide) 141 rfl).trans (hd 10 (by decide))
              clear hd
              exact runq_val (W' := W) (by simp [execOp, d6, d10, hJi, go_sem]) (Below.refl _ _) rfl
            case s12 =>
              intro val ρ W hE hz hd hA hx
              have d11 : ρ (.tmp 142) = .pointer (some ⟨lb, lo + J, none⟩) := (hA.dep 11 (by decide) 142 rfl).trans (hd 11 (by decide))
              have f_c0 := cell_below hE (by simp only; omega) c0
              clear hd
              exact runq_val (W' := W) (by simp [execOp, d11, f_c0, go_sem]) (Below.refl _ _) rfl
            case s13 =>
              intro val ρ W hE hz hd hA hx
              have d12 : ρ (.tmp 143) = .int .u8 u := (hA.dep 12 (by decide) 143 rfl).trans (hd 12 (by decide))
              clear hd
              exact runq_val (W' := W) (by simp [execOp, d12, hwu, go_sem]) (Below.refl _ _) rfl
            case s14 =>
              intro val ρ W hE hz hd hA hx
              have d13 : ρ (.tmp 144) = .int .i64 u := (hA.dep 13 (by decide) 144 rfl).trans (hd 13 (by decide))
              clear hd
              exact runq_val (W' := W) (by simp [execOp, hA.const, d13, hm4t, hwm, go_sem]) (Below.refl _ _) rfl
            case s15 =>
              intro val ρ W hE hz hd hA hx
              have d5 : ρ (.tmp 136) = .int .i64 x := (hA.dep 5 (by decide) 136 rfl).trans (hd 5 (by decide))
              have d14 : ρ (.tmp 145) = .int .i64 m4 := (hA.dep 14 (by decide) 145 rfl).trans (hd 14 (by decide))
              clear hd
              exact runq_val (W' := W) (by simp [execOp, d5, d14, hwd, go_sem]) (Below.refl _ _) rfl
            case s16 =>
              intro val ρ W hE hz hd hA hx
              have d15 : ρ (.tmp 146) = .int .i64 (x - m4) := (hA.dep 15 (by decide) 146 rfl).trans (hd 15 (by decide))
              clear hd
              exact runq_val (W' := W) (by simp [execOp, hA.const, d15, hye, go_sem]) (Below.refl _ _) rfl
            case s17 =>
              intro val ρ W hE hz hd hA hx
              have d0 : ρ (.tmp 131) = .slice (some ⟨g, 0, none⟩) s.length gc := (hA.dep 0 (by decide) 131 rfl).trans (hd 0 (by decide))
              have d1 : ρ (.tmp 132) = .int .i64 j := (hA.dep 1 (by decide) 132 rfl).trans (hd 1 (by decide))
              clear hd
              exact runq_val (W' := W) (by simp [execOp, d0, d1, hji, go_sem]) (Below.refl _ _) rfl
            case send =>
              intro val WW hE hzz hv
              obtain ⟨-, -, -, -, -, -, -, -, -, -, -, -, -, -, -, -, q16, q17, -⟩ := hv
              have q16' : val 16 = .int .i64 y := q16
              have q17' : val 17 = .pointer (some ⟨g, j, none⟩) := q17
              have hEZ : Ext Z WW := hE
              have HNW := Lib.hid (HNF.out.of_heap (hEZ.block _ gz))
              have HQW := Lib.hid (HNE.out.of_heap (hEZ.block _ HNE.out.lt))
              have HEW := Lib.hid (HEr.out.trans' hEZ)
              have x2 := cell_ext hEZ x1
              have g9 := HNW.out.cell j hlt
              have f9 := HNW.out.free j
              have z9 := HNW.out.lt
              have zx := World.block_lt_of_cell? _ _ x2
              simp only at zx
              simp only [putD, q16', q17']
              go_frame
              clear q16 q16' q17 q17' hE hzz hEZ c0 d0 g0 gf gz x1 hmt hwJ hnn2 hnn3 hm4t hwu hwm hwd hye hls hdl hdl2 hcz hdz
              go_upto_region 26 with (fail)
              obtain ⟨Z9, hZ9⟩ : ∃ Z9, Z9 = WW.setCell ⟨g, j, none⟩ (.int .i64 y) := ⟨_, rfl⟩
              have hE9 : Ext R0 Z9 := by rw [hZ9]; exact HEW.out.setCell (by simp only; omega) _
              have hN9 : NumB Z9 g s.length (fun i => if i = j then y else f i) := by rw [hZ9]; exact HNW.out.set j y
              have hk9 : Kept (fun k => k ≠ g) WW Z9 := by rw [hZ9]; exact (Kept.refl _ WW).setCell (fun _ hn => hn rfl) _
              have hQ9 : NumB Z9 q ks.length e := HQW.out.of_heap (hk9.same _ HQW.out.lt (by omega))
              have x9 : Z9.cell? ⟨h, 0, none⟩ = some (.slice (some ⟨q, 0, none⟩) ks.length qc) := hk9.cell x2 (by show h ≠ g; omega)
              have hF9 : ∀ i, i < s.length → 0 ≤ (if i = j then y else f i) ∧ (if i = j then y else f i) ≤ gt s i := fun i hi => by
                by_cases e : i = j
                · subst e; rw [if_pos rfl, ← HX.out]; exact HYB.out
                · rw [if_neg e]; exact HF.out i hi
              rw [← hZ9]
              clear hZ9 hk9 x2 g9 f9 z9 zx HNW HQW HEW
              obtain ⟨f9, hN9, hF9⟩ : ∃ f9, NumB Z9 g s.length f9 ∧ ∀ i, i < s.length → 0 ≤ f9 i ∧ f9 i ≤ gt s i := ⟨_, hN9, hF9⟩
              have HN9 := Lib.hid hN9
              have HQ9 := Lib.hid hQ9
              have HF9 := Lib.hid hF9
              have HE9 := Lib.hid hE9
              have HX9 := Lib.hid x9
              have k9 := cell_ext hE9 HK1.out
              have hz9 := World.block_lt_of_cell? _ _ k9
              have zx9 := World.block_lt_of_cell? _ _ x9
              simp only at hz9 zx9
              have hjk : j < ks.length := by have := HSL.out; omega
              have hjki : (j : Int) < (ks.length : Int) := by omega
              have q0 := hQ9.cell j hjk
              have qf := hQ9.free j
              have qz := hQ9.lt
              clear hN9 hQ9 hF9
              by_cases hms : 0 < ms.length
              · have hdm : decide ((0 : Int) < (ms.length : Int)) = true := decide_eq_true (by omega)
                have hdm2 : decide (0 < ms.length) = true := decide_eq_true hms
                obtain ⟨mb, mo, rfl, hmz, hmc⟩ := HMO.out.at_allK hms
                obtain ⟨J, hJ⟩ : ∃ J, J = j % ms.length := ⟨_, rfl⟩
                have hJl : J < ms.length := by rw [hJ]; exact Nat.mod_lt _ hms
                have hJi : (J : Int) < (ms.length : Int) := by omega
                have c0 := hmc Z9 (HE.out.trans' hE9) J hJl
                have hu8 := gt_u8 H8m.out hJl
                have d0 := HKC.out Z9 hE9 j hjk
                have h12 := V.out.at_ j hjk
                obtain ⟨u, hu⟩ : ∃ u, u = gt ms J := ⟨_, rfl⟩
                obtain ⟨x, hx⟩ : ∃ x, x = gt ks j := ⟨_, rfl⟩
                have hx12 : 1 ≤ x ∧ x ≤ 12 := by rw [hx]; exact h12
                rw [← hu] at c0 hu8
                rw [← hx] at d0
                have hcz := World.block_lt_of_cell? _ _ c0
                have hdz := World.block_lt_of_cell? _ _ d0
                simp only at hcz hdz
                have hmd : (j : Int) % (ms.length : Int) = (J : Int) := by rw [hJ]; rfl
                have hmt : Int.tmod (j : Int) (ms.length : Int) = (J : Int) := by rw [← hmd]; exact Int.tmod_eq_emod_of_nonneg (by omega)
                have hwJ : IntKind.i64.wrap (J : Int) = (J : Int) := IntWalk.i64_in _ (by omega)
                have hnn2 : ¬ ((ms.length : Int) = 0) := by omega
                have hnn3 : ¬ ms = [] := fun h => by rw [h] at hms; simp at hms
                obtain ⟨m3, hm3⟩ : ∃ m3, m3 = u % 3 := ⟨_, rfl⟩
                have hm3b : 0 ≤ m3 ∧ m3 ≤ 2 := by omega
                have hm3t : Int.tmod u 3 = m3 := by rw [hm3]; exact Int.tmod_eq_emod_of_nonneg (by omega)
                have hwu : IntKind.i64.wrap u = u := IntWalk.i64_in _ (by omega)
                have hwm : IntKind.i64.wrap m3 = m3 := IntWalk.i64_in _ (by omega)
                have hwd : IntKind.i64.wrap (x + m3) = x + m3 := IntWalk.i64_in _ (by omega)
                obtain ⟨yy, hyy⟩ : ∃ yy, yy = if x + m3 < 12 then x + m3 else 12 := ⟨_, rfl⟩
                have hyb : x ≤ yy ∧ yy ≤ 12 := by rw [hyy]; split <;> omega
                have hye : (if x + m3 < 12 then x + m3 else 12) = yy := hyy.symm
                have HYY := Lib.hid hyb
                have HXX := Lib.hid hx
                clear hmc hJ hu hx hmd hm3 hyy h12 hE9
                go_upto_region 27 with (fail)
                refine wp_region_rove_tail rfl rfl (by kernel_rfl) (Z9.heap.size) (Nat.le_refl _)
                  [sqV (.pointer (some ⟨h, 0, none⟩)),
                   sqV (.slice (some ⟨q, 0, none⟩) ks.length qc),
                   sqV (.int .i64 j),
                   sqV (.pointer (some ⟨w.heap.size, 0, none⟩)),
                   sqV (.slice (some ⟨kb, ko, none⟩) ks.length cap),
                   sqV (.int .i64 j),
                   sqV (.pointer (some ⟨kb, ko + j, none⟩)),
                   sqV (.int .i64 x),
                   sqV (.slice (some ⟨mb, mo, none⟩) ms.length mcap),
                   sqV (.int .i64 j),
                   sqV (.slice (some ⟨mb, mo, none⟩) ms.length mcap),
                   sqV (.int .i64 ms.length),
                   sqV (.int .i64 J),
                   sqV (.pointer (some ⟨mb, mo + J, none⟩)),
                   sqV (.int .u8 u),
                   sqV (.int .i64 u),
                   sqV (.int .i64 m3),
                   sqV (.int .i64 (x + m3)),
                   sqV (.int .i64 yy),
                   sqV (.pointer (some ⟨q, j, none⟩))]
                  [true, true, true, true, true, true, true, true, true, true, true, true, true, true, true, true, true, true, true, true] [false, false, false, false, false, false, false, false, false, false, false, false, false, false, false, false, false, false, false, false] [true, true, true, true, true, true, true, true, true, true, true, true, true, true, true, true, true, true, true, true] [true, true, true, true, true, true, true, true, true, true, true, true, true, true, true, true, true, true, true, true]
                  (by kernel_rfl) (by kernel_rfl) (by decide +kernel) (by decide +kernel) (by decide +kernel) rfl ⟨rfl, rfl⟩ ⟨?s0, ?s1, ?s2, ?s3, ?s4, ?s5, ?s6, ?s7, ?s8, ?s9, ?s10, ?s11, ?s12, ?s13, ?s14, ?s15, ?s16, ?s17, ?s18, ?s19, trivial⟩ [some 152, some 153, some 154, some 155, some 156, some 157, some 158, some 159, some 160, some 161, some 162, some 163, some 164, some 165, some 166, some 167, some 168, some 169, some 170, some 171] rfl rfl ?send
                case s0 =>
                  intro val ρ W hE hz hd hA hx
                  have o0 : ρ (.tmp 20) = .pointer (some ⟨h, 0, none⟩) := hA.old 20 (by decide)
                  clear hd
                  exact runq_val (W' := W) (by simp [execOp, o0, go_sem]) (Below.refl _ _) rfl
                case s1 =>
                  intro val ρ W hE hz hd hA hx
                  have d0 : ρ (.tmp 152) = .pointer (some ⟨h, 0, none⟩) := (hA.dep 0 (by decide) 152 rfl).trans (hd 0 (by decide))
                  have f_x9 := cell_below hE (by simp only; omega) x9
                  clear hd
                  exact runq_val (W' := W) (by simp [execOp, d0, f_x9, go_sem]) (Below.refl _ _) rfl
                case s2 =>
                  intro val ρ W hE hz hd hA hx
                  have o0 : ρ (.tmp 21) = .int .i64 j := hA.old 21 (by decide)
                  clear hd
                  exact runq_val (W' := W) (by simp [execOp, o0, go_sem]) (Below.refl _ _) rfl
                case s3 =>
                  intro val ρ W hE hz hd hA hx
                  have o0 : ρ (.tmp 5) = .pointer (some ⟨w.heap.size, 0, none⟩) := hA.old 5 (by decide)
                  clear hd
                  exact runq_val (W' := W) (by simp [execOp, o0, go_sem]) (Below.refl _ _) rfl
                case s4 =>
                  intro val ρ W hE hz hd hA hx
                  have d3 : ρ (.tmp 155) = .pointer (some ⟨w.heap.size, 0, none⟩) := (hA.dep 3 (by decide) 155 rfl).trans (hd 3 (by decide))
                  have f_k9 := cell_below hE (by simp only; omega) k9
                  clear hd
                  exact runq_val (W' := W) (by simp [execOp, d3, f_k9, go_sem]) (Below.refl _ _) rfl
                case s5 =>
                  intro val ρ W hE hz hd hA hx
                  have o0 : ρ (.tmp 21) = .int .i64 j := hA.old 21 (by decide)
                  clear hd
                  exact runq_val (W' := W) (by simp [execOp, o0, go_sem]) (Below.refl _ _) rfl
                case s6 =>
                  intro val ρ W hE hz hd hA hx
                  have d4 : ρ (.tmp 156) = .slice (some ⟨kb, ko, none⟩) ks.length cap := (hA.dep 4 (by decide) 156 rfl).trans (hd 4 (by decide))
                  have d5 : ρ (.tmp 157) = .int .i64 j := (hA.dep 5 (by decide) 157 rfl).trans (hd 5 (by decide))
                  clear hd
                  exact runq_val (W' := W) (by simp [execOp, d4, d5, hjki, go_sem]) (Below.refl _ _) rfl
                case s7 =>
                  intro val ρ W hE hz hd hA hx
                  have d6 : ρ (.tmp 158) = .pointer (some ⟨kb, ko + j, none⟩) := (hA.dep 6 (by decide) 158 rfl).trans (hd 6 (by decide))
                  have f_d0 := cell_below hE (by simp only; omega) d0
                  clear hd
                  exact runq_val (W' := W) (by simp [execOp, d6, f_d0, go_sem]) (Below.refl _ _) rfl
                case s8 =>
                  intro val ρ W hE hz hd hA hx
                  have o0 : ρ (.tmp 4) = .slice (some ⟨mb, mo, none⟩) ms.length mcap := hA.old 4 (by decide)
                  clear hd
                  exact runq_val (W' := W) (by simp [execOp, o0, go_sem]) (Below.refl _ _) rfl
                case s9 =>
                  intro val ρ W hE hz hd hA hx
                  have o0 : ρ (.tmp 21) = .int .i64 j := hA.old 21 (by decide)
                  clear hd
                  exact runq_val (W' := W) (by simp [execOp, o0, go_sem]) (Below.refl _ _) rfl
                case s10 =>
                  intro val ρ W hE hz hd hA hx
                  have o0 : ρ (.tmp 4) = .slice (some ⟨mb, mo, none⟩) ms.length mcap := hA.old 4 (by decide)
                  clear hd
                  exact runq_val (W' := W) (by simp [execOp, o0, go_sem]) (Below.refl _ _) rfl
                case s11 =>
                  intro val ρ W hE hz hd hA hx
                  have d10 : ρ (.tmp 162) = .slice (some ⟨mb, mo, none⟩) ms.length mcap := (hA.dep 10 (by decide) 162 rfl).trans (hd 10 (by decide))
                  clear hd
                  exact runq_val (W' := W) (by simp [execOp, d10, go_sem]) (Below.refl _ _) rfl
                case s12 =>
                  intro val ρ W hE hz hd hA hx
                  have d9 : ρ (.tmp 161) = .int .i64 j := (hA.dep 9 (by decide) 161 rfl).trans (hd 9 (by decide))
                  have d11 : ρ (.tmp 163) = .int .i64 ms.length := (hA.dep 11 (by decide) 163 rfl).trans (hd 11 (by decide))
                  clear hd
                  exact runq_val (W' := W) (by simp [execOp, d9, d11, hmt, hwJ, hnn2, hnn3, go_sem]) (Below.refl _ _) rfl
                case s13 =>
                  intro val ρ W hE hz hd hA hx
                  have d8 : ρ (.tmp 160) = .slice (some ⟨mb, mo, none⟩) ms.length mcap := (hA.dep 8 (by decide) 160 rfl).trans (hd 8 (by decide))
                  have d12 : ρ (.tmp 164) = .int .i64 J := (hA.dep 12 (by decide) 164 rfl).trans (hd 12 (by decide))
                  clear hd
                  exact runq_val (W' := W) (by simp [execOp, d8, d12, hJi, go_sem]) (Below.refl _ _) rfl
                case s14 =>
                  intro val ρ W hE hz hd hA hx
                  have d13 : ρ (.tmp 165) = .pointer (some ⟨mb, mo + J, none⟩) := (hA.dep 13 (by decide) 165 rfl).trans (hd 13 (by decide))
                  have f_c0 := cell_below hE (by simp only; omega) c0
                  clear hd
                  exact runq_val (W' := W) (by simp [execOp, d13, f_c0, go_sem]) (Below.refl _ _) rfl
                case s15 =>
                  intro val ρ W hE hz hd hA hx
                  have d14 : ρ (.tmp 166) = .int .u8 u := (hA.dep 14 (by decide) 166 rfl).trans (hd 14 (by decide))
                  clear hd
                  exact runq_val (W' := W) (by simp [execOp, d14, hwu, go_sem]) (Below.refl _ _) rfl
                case s16 =>
                  intro val ρ W hE hz hd hA hx
                  have d15 : ρ (.tmp 167) = .int .i64 u := (hA.dep 15 (by decide) 167 rfl).trans (hd 15 (by decide))
                  clear hd
                  exact runq_val (W' := W) (by simp [execOp, hA.const, d15, hm3t, hwm, go_sem]) (Below.refl _ _) rfl
                case s17 =>
                  intro val ρ W hE hz hd hA hx
                  have d7 : ρ (.tmp 159) = .int .i64 x := (hA.dep 7 (by decide) 159 rfl).trans (hd 7 (by decide))
                  have d16 : ρ (.tmp 168) = .int .i64 m3 := (hA.dep 16 (by decide) 168 rfl).trans (hd 16 (by decide))
                  clear hd
                  exact runq_val (W' := W) (by simp [execOp, d7, d16, hwd, go_sem]) (Below.refl _ _) rfl
                case s18 =>
                  intro val ρ W hE hz hd hA hx
                  have d17 : ρ (.tmp 169) = .int .i64 (x + m3) := (hA.dep 17 (by decide) 169 rfl).trans (hd 17 (by decide))
                  clear hd
                  exact runq_val (W' := W) (by simp [execOp, hA.const, d17, hye, go_sem]) (Below.refl _ _) rfl
                case s19 =>
                  intro val ρ W hE hz hd hA hx
                  have d1 : ρ (.tmp 153) = .slice (some ⟨q, 0, none⟩) ks.length qc := (hA.dep 1 (by decide) 153 rfl).trans (hd 1 (by decide))
                  have d2 : ρ (.tmp 154) = .int .i64 j := (hA.dep 2 (by decide) 154 rfl).trans (hd 2 (by decide))
                  clear hd
                  exact runq_val (W' := W) (by simp [execOp, d1, d2, hjki, go_sem]) (Below.refl _ _) rfl
                case send =>
                  intro val WX hE hzz hv
                  obtain ⟨-, -, -, -, -, -, -, -, -, -, -, -, -, -, -, -, -, -, q18, q19, -⟩ := hv
                  have q18' : val 18 = .int .i64 yy := q18
                  have q19' : val 19 = .pointer (some ⟨q, j, none⟩) := q19
                  have hEZ : Ext Z9 WX := hE
                  have HNW := Lib.hid (HN9.out.of_heap (hEZ.block _ HN9.out.lt))
                  have HQW := Lib.hid (HQ9.out.of_heap (hEZ.block _ qz))
                  have HEW := Lib.hid (HE9.out.trans' hEZ)
                  have x5 := cell_ext hEZ HX9.out
                  have g5 := HQW.out.cell j hjk
                  have f5 := HQW.out.free j
                  have z5 := HQW.out.lt
                  simp only [putD, q18', q19']
                  go_frame
                  clear q18 q18' q19 q19' hE hzz hEZ c0 d0 q0 qf qz x9 k9 hmt hwJ hnn2 hnn3 hm3t hwu hwm hwd hye hcz hdz
                  go_wp2_with fail
                  go_roundw
                  case rel =>
                    have hk5 : Kept (fun k => k ≠ q) WX (WX.setCell ⟨q, j, none⟩ (.int .i64 yy)) := (Kept.refl _ WX).setCell (fun _ hn => hn rfl) _
                    refine ⟨j + 1, f9, _, by omega, by go_num, HNW.out.of_heap (hk5.same _ HNW.out.lt (by omega)), HQW.out.set j yy, HF9.out, fun i hi => ?_, hk5.cell x5 (by show h ≠ q; omega), HEW.out.setCell (by simp only; omega) _⟩
                    by_cases e : i = j
                    · subst e; rw [if_pos rfl, ← HXX.out]; exact HYY.out
                    · rw [if_neg e]; exact HEB.out i hi
                  case measure => simp [intOf]; omega
              · have hdm : decide ((0 : Int) < (ms.length : Int)) = false := decide_eq_false (by omega)
                have hdm2 : decide (0 < ms.length) = false := decide_eq_false hms
                clear hE9 x9 hms
                go_wp2_with fail
                go_roundw
                case rel => exact ⟨j + 1, f9, _, by omega, by go_num, HN9.out, HQ9.out, HF9.out, HEB.out, HX9.out, HE9.out⟩
                case measure => simp [intOf]; omega
          · have hdl : decide ((0 : Int) < (ls.length : Int)) = false := decide_eq_false (by omega)
            have hdl2 : decide (0 < ls.length) = false := decide_eq_false hls
            go_upto_region 26 with (fail)
            obtain ⟨Z9, hZ9⟩ : ∃ Z9, Z9 = wr := ⟨_, rfl⟩
            subst hZ9
            have hE9 := hE
            have hN9 := hnf
            have hQ9 := hne
            have x9 := x1
            have hF9 := hf
            clear hE hnf hne hf he x1 hls hdl hdl2
            obtain ⟨f9, hN9, hF9⟩ : ∃ f9, NumB Z9 g s.length f9 ∧ ∀ i, i < s.length → 0 ≤ f9 i ∧ f9 i ≤ gt s i := ⟨_, hN9, hF9⟩
            have HN9 := Lib.hid hN9
            have HQ9 := Lib.hid hQ9
            have HF9 := Lib.hid hF9
            have HE9 := Lib.hid hE9
            have HX9 := Lib.hid x9
            have k9 := cell_ext hE9 HK1.out
            have hz9 := World.block_lt_of_cell? _ _ k9
            have zx9 := World.block_lt_of_cell? _ _ x9
            simp only at hz9 zx9
            have hjk : j < ks.length := by have := HSL.out; omega
            have hjki : (j : Int) < (ks.length : Int) := by omega
            have q0 := hQ9.cell j hjk
            have qf := hQ9.free j
            have qz := hQ9.lt
            clear hN9 hQ9 hF9
            by_cases hms : 0 < ms.length
            · have hdm : decide ((0 : Int) < (ms.length : Int)) = true := decide_eq_true (by omega)
              have hdm2 : decide (0 < ms.length) = true := decide_eq_true hms
              obtain ⟨mb, mo, rfl, hmz, hmc⟩ := HMO.out.at_allK hms
              obtain ⟨J, hJ⟩ : ∃ J, J = j % ms.length := ⟨_, rfl⟩
              have hJl : J < ms.length := by rw [hJ]; exact Nat.mod_lt _ hms
              have hJi : (J : Int) < (ms.length : Int) := by omega
              have c0 := hmc Z9 (HE.out.trans' hE9) J hJl
              have hu8 := gt_u8 H8m.out hJl
              have d0 := HKC.out Z9 hE9 j hjk
              have h12 := V.out.at_ j hjk
              obtain ⟨u, hu⟩ : ∃ u, u = gt ms J := ⟨_, rfl⟩
              obtain ⟨x, hx⟩ : ∃ x, x = gt ks j := ⟨_, rfl⟩
              have hx12 : 1 ≤ x ∧ x ≤ 12 := by rw [hx]; exact h12
              rw [← hu] at c0 hu8
              rw [← hx] at d0
              have hcz := World.block_lt_of_cell? _ _ c0
              have hdz := World.block_lt_of_cell? _ _ d0
              simp only at hcz hdz
              have hmd : (j : Int) % (ms.length : Int) = (J : Int) := by rw [hJ]; rfl
              have hmt : Int.tmod (j : Int) (ms.length : Int) = (J : Int) := by rw [← hmd]; exact Int.tmod_eq_emod_of_nonneg (by omega)
              have hwJ : IntKind.i64.wrap (J : Int) = (J : Int) := IntWalk.i64_in _ (by omega)
              have hnn2 : ¬ ((ms.length : Int) = 0) := by omega
              have hnn3 : ¬ ms = [] := fun h => by rw [h] at hms; simp at hms
              obtain ⟨m3, hm3⟩ : ∃ m3, m3 = u % 3 := ⟨_, rfl⟩
              have hm3b : 0 ≤ m3 ∧ m3 ≤ 2 := by omega
              have hm3t : Int.tmod u 3 = m3 := by rw [hm3]; exact Int.tmod_eq_emod_of_nonneg (by omega)
              have hwu : IntKind.i64.wrap u = u := IntWalk.i64_in _ (by omega)
              have hwm : IntKind.i64.wrap m3 = m3 := IntWalk.i64_in _ (by omega)
              have hwd : IntKind.i64.wrap (x + m3) = x + m3 := IntWalk.i64_in _ (by omega)
              obtain ⟨yy, hyy⟩ : ∃ yy, yy = if x + m3 < 12 then x + m3 else 12 := ⟨_, rfl⟩
              have hyb : x ≤ yy ∧ yy ≤ 12 := by rw [hyy]; split <;> omega
              have hye : (if x + m3 < 12 then x + m3 else 12) = yy := hyy.symm
              have HYY := Lib.hid hyb
              have HXX := Lib.hid hx
              clear hmc hJ hu hx hmd hm3 hyy h12 hE9
              go_upto_region 27 with (fail)
              refine wp_region_rove_tail rfl rfl (by kernel_rfl) (Z9.heap.size) (Nat.le_refl _)
                [sqV (.pointer (some ⟨h, 0, none⟩)),
                 sqV (.slice (some ⟨q, 0, none⟩) ks.length qc),
                 sqV (.int .i64 j),
                 sqV (.pointer (some ⟨w.heap.size, 0, none⟩)),
                 sqV (.slice (some ⟨kb, ko, none⟩) ks.length cap),
                 sqV (.int .i64 j),
                 sqV (.pointer (some ⟨kb, ko + j, none⟩)),
                 sqV (.int .i64 x),
                 sqV (.slice (some ⟨mb, mo, none⟩) ms.length mcap),
                 sqV (.int .i64 j),
                 sqV (.slice (some ⟨mb, mo, none⟩) ms.length mcap),
                 sqV (.int .i64 ms.length),
                 sqV (.int .i64 J),
                 sqV (.pointer (some ⟨mb, mo + J, none⟩)),
                 sqV (.int .u8 u),
                 sqV (.int .i64 u),
                 sqV (.int .i64 m3),
                 sqV (.int .i64 (x + m3)),
                 sqV (.int .i64 yy),
                 sqV (.pointer (some ⟨q, j, none⟩))]
                [true, true, true, true, true, true, true, true, true, true, true, true, true, true, true, true, true, true, true, true] [false, false, false, false, false, false, false, false, false, false, false, false, false, false, false, false, false, false, false, false] [true, true, true, true, true, true, true, true, true, true, true, true, true, true, true, true, true, true, true, true] [true, true, true, true, true, true, true, true, true, true, true, true, true, true, true, true, true, true, true, true]
                (by kernel_rfl) (by kernel_rfl) (by decide +kernel) (by decide +kernel) (by decide +kernel) rfl ⟨rfl, rfl⟩ ⟨?s0, ?s1, ?s2, ?s3, ?s4, ?s5, ?s6, ?s7, ?s8, ?s9, ?s10, ?s11, ?s12, ?s13, ?s14, ?s15, ?s16, ?s17, ?s18, ?s19, trivial⟩ [some 152, some 153, some 154, some 155, some 156, some 157, some 158, some 159, some 160, some 161, some 162, some 163, some 164, some 165, some 166, some 167, some 168, some 169, some 170, some 171] rfl rfl ?send
              case s0 =>
                intro val ρ W hE hz hd hA hx
                have o0 : ρ (.tmp 20) = .pointer (some ⟨h, 0, none⟩) := hA.old 20 (by decide)
                clear hd
                exact runq_val (W' := W) (by simp [execOp, o0, go_sem]) (Below.refl _ _) rfl
              case s1 =>
                intro val ρ W hE hz hd hA hx
                have d0 : ρ (.tmp 152) = .pointer (some ⟨h, 0, none⟩) := (hA.dep 0 (by decide) 152 rfl).trans (hd 0 (by decide))
                have f_x9 := cell_below hE (by simp only; omega) x9
                clear hd
                exact runq_val (W' := W) (by simp [execOp, d0, f_x9, go_sem]) (Below.refl _ _) rfl
              case s2 =>
                intro val ρ W hE hz hd hA hx
                have o0 : ρ (.tmp 21) = .int .i64 j := hA.old 21 (by decide)
                clear hd
                exact runq_val (W' := W) (by simp [execOp, o0, go_sem]) (Below.refl _ _) rfl
              case s3 =>
                intro val ρ W hE hz hd hA hx
                have o0 : ρ (.tmp 5) = .pointer (some ⟨w.heap.size, 0, none⟩) := hA.old 5 (by decide)
                clear hd
                exact runq_val (W' := W) (by simp [execOp, o0, go_sem]) (Below.refl _ _) rfl
              case s4 =>
                intro val ρ W hE hz hd hA hx
                have d3 : ρ (.tmp 155) = .pointer (some ⟨w.heap.size, 0, none⟩) := (hA.dep 3 (by decide) 155 rfl).trans (hd 3 (by decide))
                have f_k9 := cell_below hE (by simp only; omega) k9
                clear hd
                exact runq_val (W' := W) (by simp [execOp, d3, f_k9, go_sem]) (Below.refl _ _) rfl
              case s5 =>
                intro val ρ W hE hz hd hA hx
                have o0 : ρ (.tmp 21) = .int .i64 j := hA.old 21 (by decide)
                clear hd
                exact runq_val (W' := W) (by simp [execOp, o0, go_sem]) (Below.refl _ _) rfl
              case s6 =>
                intro val ρ W hE hz hd hA hx
                have d4 : ρ (.tmp 156) = .slice (some ⟨kb, ko, none⟩) ks.length cap := (hA.dep 4 (by decide) 156 rfl).trans (hd 4 (by decide))
                have d5 : ρ (.tmp 157) = .int .i64 j := (hA.dep 5 (by decide) 157 rfl).trans (hd 5 (by decide))
                clear hd
                exact runq_val (W' := W) (by simp [execOp, d4, d5, hjki, go_sem]) (Below.refl _ _) rfl
              case s7 =>
                intro val ρ W hE hz hd hA hx
                have d6 : ρ (.tmp 158) = .pointer (some ⟨kb, ko + j, none⟩) := (hA.dep 6 (by decide) 158 rfl).trans (hd 6 (by decide))
                have f_d0 := cell_below hE (by simp only; omega) d0
                clear hd
                exact runq_val (W' := W) (by simp [execOp, d6, f_d0, go_sem]) (Below.refl _ _) rfl
              case s8 =>
                intro val ρ W hE hz hd hA hx
                have o0 : ρ (.tmp 4) = .slice (some ⟨mb, mo, none⟩) ms.length mcap := hA.old 4 (by decide)
                clear hd
                exact runq_val (W' := W) (by simp [execOp, o0, go_sem]) (Below.refl _ _) rfl
              case s9 =>
                intro val ρ W hE hz hd hA hx
                have o0 : ρ (.tmp 21) = .int .i64 j := hA.old 21 (by decide)
                clear hd
                exact runq_val (W' := W) (by simp [execOp, o0, go_sem]) (Below.refl _ _) rfl
              case s10 =>
                intro val ρ W hE hz hd hA hx
                have o0 : ρ (.tmp 4) = .slice (some ⟨mb, mo, none⟩) ms.length mcap := hA.old 4 (by decide)
                clear hd
                exact runq_val (W' := W) (by simp [execOp, o0, go_sem]) (Below.refl _ _) rfl
              case s11 =>
                intro val ρ W hE hz hd hA hx
                have d10 : ρ (.tmp 162) = .slice (some ⟨mb, mo, none⟩) ms.length mcap := (hA.dep 10 (by decide) 162 rfl).trans (hd 10 (by decide))
                clear hd
                exact runq_val (W' := W) (by simp [execOp, d10, go_sem]) (Below.refl _ _) rfl
              case s12 =>
                intro val ρ W hE hz hd hA hx
                have d9 : ρ (.tmp 161) = .int .i64 j := (hA.dep 9 (by decide) 161 rfl).trans (hd 9 (by decide))
                have d11 : ρ (.tmp 163) = .int .i64 ms.length := (hA.dep 11 (by decide) 163 rfl).trans (hd 11 (by decide))
                clear hd
                exact runq_val (W' := W) (by simp [execOp, d9, d11, hmt, hwJ, hnn2, hnn3, go_sem]) (Below.refl _ _) rfl
              case s13 =>
                intro val ρ W hE hz hd hA hx
                have d8 : ρ (.tmp 160) = .slice (some ⟨mb, mo, none⟩) ms.length mcap := (hA.dep 8 (by decide) 160 rfl).trans (hd 8 (by decide))
                have d12 : ρ (.tmp 164) = .int .i64 J := (hA.dep 12 (by decide) 164 rfl).trans (hd 12 (by decide))
                clear hd
                exact runq_val (W' := W) (by simp [execOp, d8, d12, hJi, go_sem]) (Below.refl _ _) rfl
              case s14 =>
                intro val ρ W hE hz hd hA hx
                have d13 : ρ (.tmp 165) = .pointer (some ⟨mb, mo + J, none⟩) := (hA.dep 13 (by decide) 165 rfl).trans (hd 13 (by decide))
                have f_c0 := cell_below hE (by simp only; omega) c0
                clear hd
                exact runq_val (W' := W) (by simp [execOp, d13, f_c0, go_sem]) (Below.refl _ _) rfl
              case s15 =>
                intro val ρ W hE hz hd hA hx
                have d14 : ρ (.tmp 166) = .int .u8 u := (hA.dep 14 (by decide) 166 rfl).trans (hd 14 (by decide))
                clear hd
                exact runq_val (W' := W) (by simp [execOp, d14, hwu, go_sem]) (Below.refl _ _) rfl
              case s16 =>
                intro val ρ W hE hz hd hA hx
                have d15 : ρ (.tmp 167) = .int .i64 u := (hA.dep 15 (by decide) 167 rfl).trans (hd 15 (by decide))
                clear hd
                exact runq_val (W' := W) (by simp [execOp, hA.const, d15, hm3t, hwm, go_sem]) (Below.refl _ _) rfl
              case s17 =>
                intro val ρ W hE hz hd hA hx
                have d7 : ρ (.tmp 159) = .int .i64 x := (hA.dep 7 (by decide) 159 rfl).trans (hd 7 (by decide))
                have d16 : ρ (.tmp 168) = .int .i64 m3 := (hA.dep 16 (by decide) 168 rfl).trans (hd 16 (by decide))
                clear hd
                exact runq_val (W' := W) (by simp [execOp, d7, d16, hwd, go_sem]) (Below.refl _ _) rfl
              case s18 =>
                intro val ρ W hE hz hd hA hx
                have d17 : ρ (.tmp 169) = .int .i64 (x + m3) := (hA.dep 17 (by decide) 169 rfl).trans (hd 17 (by decide))
                clear hd
                exact runq_val (W' := W) (by simp [execOp, hA.const, d17, hye, go_sem]) (Below.refl _ _) rfl
              case s19 =>
                intro val ρ W hE hz hd hA hx
                have d1 : ρ (.tmp 153) = .slice (some ⟨q, 0, none⟩) ks.length qc := (hA.dep 1 (by decide) 153 rfl).trans (hd 1 (by decide))
                have d2 : ρ (.tmp 154) = .int .i64 j := (hA.dep 2 (by decide) 154 rfl).trans (hd 2 (by decide))
                clear hd
                exact runq_val (W' := W) (by simp [execOp, d1, d2, hjki, go_sem]) (Below.refl _ _) rfl
              case send =>
                intro val WX hE hzz hv
                obtain ⟨-, -, -, -, -, -, -, -, -, -, -, -, -, -, -, -, -, -, q18, q19, -⟩ := hv
                have q18' : val 18 = .int .i64 yy := q18
                have q19' : val 19 = .pointer (some ⟨q, j, none⟩) := q19
                have hEZ : Ext Z9 WX := hE
                have HNW := Lib.hid (HN9.out.of_heap (hEZ.block _ HN9.out.lt))
                have HQW := Lib.hid (HQ9.out.of_heap (hEZ.block _ qz))
                have HEW := Lib.hid (HE9.out.trans' hEZ)
                have x5 := cell_ext hEZ HX9.out
                have g5 := HQW.out.cell j hjk
                have f5 := HQW.out.free j
                have z5 := HQW.out.lt
                simp only [putD, q18', q19']
                go_frame
                clear q18 q18' q19 q19' hE hzz hEZ c0 d0 q0 qf qz x9 k9 hmt hwJ hnn2 hnn3 hm3t hwu hwm hwd hye hcz hdz
                go_wp2_with fail
                go_roundw
                case rel =>
                  have hk5 : Kept (fun k => k ≠ q) WX (WX.setCell ⟨q, j, none⟩ (.int .i64 yy)) := (Kept.refl _ WX).setCell (fun _ hn => hn rfl) _
                  refine ⟨j + 1, f9, _, by omega, by go_num, HNW.out.of_heap (hk5.same _ HNW.out.lt (by omega)), HQW.out.set j yy, HF9.out, fun i hi => ?_, hk5.cell x5 (by show h ≠ q; omega), HEW.out.setCell (by simp only; omega) _⟩
                  by_cases e : i = j
                  · subst e; rw [if_pos rfl, ← HXX.out]; exact HYY.out
                  · rw [if_neg e]; exact HEB.out i hi
                case measure => simp [intOf]; omega
            · have hdm : decide ((0 : Int) < (ms.length : Int)) = false := decide_eq_false (by omega)
              have hdm2 : decide (0 < ms.length) = false := decide_eq_false hms
              clear hE9 x9 hms
              go_wp2_with fail
              go_roundw
              case rel => exact ⟨j + 1, f9, _, by omega, by go_num, HN9.out, HQ9.out, HF9.out, HEB.out, HX9.out, HE9.out⟩
              case measure => simp [intOf]; omega
        · have hji : ¬ ((j : Int) < (s.length : Int)) := by omega
          have k9 := cell_ext hE HK1.out
          have hz9 := World.block_lt_of_cell? _ _ k9
          have zx9 := World.block_lt_of_cell? _ _ x1
          simp only at hz9 zx9
          obtain ⟨EL, hEL⟩ : ∃ EL, EL = (List.range s.length).map f := ⟨_, rfl⟩
          obtain ⟨KW, hKW⟩ : ∃ KW, KW = (List.range ks.length).map e := ⟨_, rfl⟩
          have hge : ∀ i, i < s.length → gt EL i = f i := fun i hi => by rw [hEL]; unfold gt; rw [List.getD_eq_getElem?_getD, List.getElem?_map, List.getElem?_range hi]; rfl
          have hgk : ∀ i, i < ks.length → gt KW i = e i := fun i hi => by rw [hKW]; unfold gt; rw [List.getD_eq_getElem?_getD, List.getElem?_map, List.getElem?_range hi]; rfl
          have hel : EL.length = s.length := by rw [hEL]; simp
          have hkl : KW.length = ks.length := by rw [hKW]; simp
          have HEI := Lib.hid (NumB.intsC (c := EL) (hnf.congr fun i hi => (hge i hi).symm) hel.symm hg1 hg2)
          have HKI := Lib.hid (NumB.intsC (c := KW) (hne.congr fun i hi => (hgk i hi).symm) hkl.symm hy1 hy2)
          have hst : isSt ks EL = true := isSt_of (by rw [hel, HSL.out]) fun i hi => by
            have h1 := hf i (by rw [HSL.out]; exact hi)
            have h2 := isSt_at HST.out i hi
            have h3 := hge i (by rw [HSL.out]; exact hi)
            unfold gt at h1 h3
            omega
          have hle : leS EL s := ⟨hel, fun i => by
            by_cases hi : i < s.length
            · have h1 := (hf i hi).2
              have h3 := hge i hi
              unfold gt at h1 h3
              omega
            · rw [List.getD_eq_getElem?_getD, List.getElem?_eq_none (by omega), List.getD_eq_getElem?_getD, List.getElem?_eq_none (by omega)]; exact Int.le_refl _⟩
          have hlk : leS ks KW := ⟨hkl.symm, fun i => by
            by_cases hi : i < ks.length
            · have h1 := (he i hi).1
              have h3 := hgk i hi
              unfold gt at h1 h3
              omega
            · rw [List.getD_eq_getElem?_getD, List.getElem?_eq_none (by omega), List.getD_eq_getElem?_getD, List.getElem?_eq_none (by omega)]; exact Int.le_refl _⟩
          have HD1 := Lib.hid (less_doom V.out hst hle HSAFE.out)
          have HD2 : Hid (TVal KW → doomRErr KW s = 5) := Lib.hid fun v => more_doom v HST.out hlk HSAFE.out
          have HSZ := Lib.hid (HSr.out.ext hE)
          have HLZ := Lib.hid (HLr.out.ext hE)
          have HRZ := Lib.hid (HR.out.trans' hE)
          clear hnf hne hf he hE hge hgk hst hle hlk hEL hKW hel hkl
          obtain ⟨Z, hZ⟩ : ∃ Z, Z = wr := ⟨_, rfl⟩
          subst hZ





          go_wp2_with fail
          refine callWR (W0 := Z) (g := ⟨Z, Below.refl _ _⟩) (by exact (by repeat (first | exact Below.refl _ _ | refine Ext.al ?_ _ | refine Ext.dr ?_ | refine Ext.drN ?_ _ | refine Ext.gr ?_ _ | refine Ext.set ?_ (by simp) _ | (refine Ext.trans' ?_ (by assumption))))) (doomF_any ks EL _ _ _ (HSZ.out.ext (by exact (by repeat (first | exact Below.refl _ _ | refine Ext.al ?_ _ | refine Ext.dr ?_ | refine Ext.drN ?_ _ | refine Ext.gr ?_ _ | refine Ext.set ?_ (by simp) _ | (refine Ext.trans' ?_ (by assumption)))))) (HEI.out.ext (by exact (by repeat (first | exact Below.refl _ _ | refine Ext.al ?_ _ | refine Ext.dr ?_ | refine Ext.drN ?_ _ | refine Ext.gr ?_ _ | refine Ext.set ?_ (by simp) _ | (refine Ext.trans' ?_ (by assumption))))))) (fun _ _ ⟨_, _, _, r, _⟩ => r) fun _ g1 hgr hr => ?_
          obtain ⟨x, dl, rfl, -, hI, -, -⟩ := hr
          clear hgr
          obtain ⟨a5, c5, rfl, -, -⟩ := hI.spec
          clear hI
          rw [HD1.out]
          go_wp2_with fail
          refine callW (W0 := Z) (g := g1) (by exact (by repeat (first | exact Below.refl _ _ | refine Ext.al ?_ _ | refine Ext.dr ?_ | refine Ext.drN ?_ _ | refine Ext.gr ?_ _ | refine Ext.set ?_ (by simp) _ | (refine Ext.trans' ?_ (by assumption))))) (fineL_any KW _ _ (HKI.out.ext (by exact (by repeat (first | exact Below.refl _ _ | refine Ext.al ?_ _ | refine Ext.dr ?_ | refine Ext.drN ?_ _ | refine Ext.gr ?_ _ | refine Ext.set ?_ (by simp) _ | (refine Ext.trans' ?_ (by assumption))))))) fun g2 hgr => ?_
          clear hgr
          cases hfn : fineB KW
          · clear hfn

            go_wp2_with fail
            refine callW (W0 := Z) (g := g2) (by exact (by repeat (first | exact Below.refl _ _ | refine Ext.al ?_ _ | refine Ext.dr ?_ | refine Ext.drN ?_ _ | refine Ext.gr ?_ _ | refine Ext.set ?_ (by simp) _ | (refine Ext.trans' ?_ (by assumption))))) (works_any _) fun g3 hgr => ?_
            clear hgr
            go_wp2_with fail
            go_ret
            exact ⟨rfl, HRZ.out.trans' (grow_below Z g3)⟩

          · have HV2 := Lib.hid (HD2.out (tval_of (of_decide_eq_true hfn)))
            clear hfn
            go_wp2_with fail
            refine callWR (W0 := Z) (g := g2) (by exact (by repeat (first | exact Below.refl _ _ | refine Ext.al ?_ _ | refine Ext.dr ?_ | refine Ext.drN ?_ _ | refine Ext.gr ?_ _ | refine Ext.set ?_ (by simp) _ | (refine Ext.trans' ?_ (by assumption))))) (doomF_any KW s _ _ _ (HKI.out.ext (by exact (by repeat (first | exact Below.refl _ _ | refine Ext.al ?_ _ | refine Ext.dr ?_ | refine Ext.drN ?_ _ | refine Ext.gr ?_ _ | refine Ext.set ?_ (by simp) _ | (refine Ext.trans' ?_ (by assumption)))))) (HLZ.out.ext (by exact (by repeat (first | exact Below.refl _ _ | refine Ext.al ?_ _ | refine Ext.dr ?_ | refine Ext.drN ?_ _ | refine Ext.gr ?_ _ | refine Ext.set ?_ (by simp) _ | (refine Ext.trans' ?_ (by assumption))))))) (fun _ _ ⟨_, _, _, r, _⟩ => r) fun _ g4 hgr hr => ?_
            obtain ⟨x, dl, rfl, -, hI, -, -⟩ := hr
            clear hgr
            obtain ⟨a6, c6, rfl, -, -⟩ := hI.spec
            clear hI
            rw [HV2.out]
            go_wp2_with fail
            refine callW (W0 := Z) (g := g4) (by exact (by repeat (first | exact Below.refl _ _ | refine Ext.al ?_ _ | refine Ext.dr ?_ | refine Ext.drN ?_ _ | refine Ext.gr ?_ _ | refine Ext.set ?_ (by simp) _ | (refine Ext.trans' ?_ (by assumption))))) (works_any _) fun g5 hgr => ?_
            clear hgr
            go_wp2_with fail
            go_ret
            exact ⟨rfl, HRZ.out.trans' (grow_below Z g5)⟩
end Go.Proofs.Ytndgaklcnhoddaa
namespace Go.Proofs.Ytndgaklcnhoddaa
open Go.RowKit
open Go.ChangeShapes Go.WideShapes Go.ChangeAt in
set_option maxRecDepth 100000 in
theorem turnKept_lifted (os : Os) (started : os.Started) (H : Type) (enc : TypeId × Value → H) :
    ReturnsInHanded {} Try.checked os 11 .any (Rows.turnKeptSpec.pre6 enc Try.prog Try.f11 Rows.turnKeptRow.domain false) (Rows.turnKeptSpec.post enc Try.prog Try.f11 false true false false) := by
  refine returnsInHanded_of_change (C := Try.checked) own started (by kernel_rfl) Try.func11
    (ChangeSpec.witness6 (enc := enc) (C := Try.checked) false ⟨#[], #[.agg #[.slice none 0 0], .slice none 0 0, .int .u8 0, .slice none 0 0, .slice none 0 0], []⟩ 8 (by kernel_rfl) (by kernel_rfl) (by kernel_rfl) (by kernel_rfl)) ?_
  intro W base args ds gs before hval0 hW hcnd _
  have hval : ∀ (j : Nat) t v, Try.f11.params[j]? = some t → args[j]? = some v → Value.okWide Try.prog W .any base t v := hval0
  have hW' := hW
  obtain ⟨p, q, hA0, hV, rfl, hfz, hnd⟩ := hW
  have hA : DataW.TrodAll enc Try.prog W 0 (fun _ => true) true Try.f11.params.toList args.toList ds p := hA0
  rw [Try.params11] at hA hval
  obtain ⟨v0, vs0, d0, ds0, p0, q0, hargs, rfl, rfl, h0, r0⟩ := trodAll_cons hA
  obtain ⟨v1, vs1, d1, ds1, p1, q1, rfl, rfl, rfl, h1, r1⟩ := trodAll_cons r0
  obtain ⟨v2, vs2, d2, ds2, p2, q2, rfl, rfl, rfl, h2, r2⟩ := trodAll_cons r1
  obtain ⟨v3, vs3, d3, ds3, p3, q3, rfl, rfl, rfl, h3, r3⟩ := trodAll_cons r2
  obtain ⟨v4, vs4, d4, ds4, p4, q4, rfl, rfl, rfl, h4, r4⟩ := trodAll_cons r3
  obtain ⟨rfl, rfl, rfl⟩ := trodAll_nil r4
  obtain rfl : args = #[v0, v1, v2, v3, v4] := by cases args; simp_all
  obtain ⟨ks, sks, rfl, hks⟩ := openHall (hval 0 24 v0 rfl rfl) h0
  obtain ⟨bs, hbs, wbs⟩ := openNumsK (k := .u8) Try.underlying52 Try.underlying5 (by kernel_rfl) (hval 1 52 v1 rfl rfl) h1
  obtain ⟨mm, rfl, rfl, rfl, wmm⟩ := open_int Try.underlying5 (hval 2 5 v2 rfl rfl) h2
  obtain ⟨ls, hls, wls⟩ := openNumsK (k := .u8) Try.underlying52 Try.underlying5 (by kernel_rfl) (hval 3 52 v3 rfl rfl) h3
  obtain ⟨ms, hms, wms⟩ := openNumsK (k := .u8) Try.underlying52 Try.underlying5 (by kernel_rfl) (hval 4 52 v4 rfl rfl) h4
  clear hA0 hval0
  refine (turnKept_any ks sks v1 bs mm v3 ls v4 ms W hks hbs wbs wmm hls wls hms wms).mono fun e W' ⟨he, hb⟩ => ?_
  subst he
  exact ⟨_, rfl, law_post laidOut (tb := 4) (hts_of (by kernel_rfl)) (by kernel_rfl) Try.underlying4 hW' rfl rfl hb⟩
theorem turnKept_holds : Rows.TurnKeptSaid :=
  OpenClaim.holds_of_wide 11 Try.f11 rfl rfl rfl rfl rfl rfl rfl ⟨rfl, rfl, rfl, rfl, rfl⟩ rfl rfl rfl rfl rfl (by kernel_rfl) Try.func11 (by kernel_rfl)
    (of_decide_eq_true (by kernel_rfl)) (by unfold Func.isWrapper; first | (rw [if_pos (by decide +kernel)]; kernel_rfl) | (rw [if_neg (by decide +kernel)]; exact ⟨rfl, rfl⟩))
    (fun os started H enc _ => turnKept_lifted os started H enc)
end Go.Proofs.Ytndgaklcnhoddaa
