/-
  The statement TurnDense holds: if the sum of 1 by Threads, of all windows, is above 1, all states are doomed; if it is at most 5 by 6, the empty state is safe; for every hall and state that are handed in. No condition.
-/
import Derived.Test.YtndgaklcnhoddaaLawB
import Derived.Test.YtndgaklcnhoddaaCircles0
import Derived.Test.YtndgaklcnhoddaaEither
import Derived.Test.YtndgaklcnhoddaaDense
namespace Go.Proofs.Ytndgaklcnhoddaa
open Go.RowKit Go.Shelf
theorem cnt_pos {ks : List Int} (v : TVal ks) : 0 < cntN ks ↔ SafeP (nxS ks) (zeroS ks) := by
  have hN := nSt_eq v
  unfold cntN
  constructor
  · intro h
    obtain ⟨i, hi⟩ := List.exists_mem_of_length_pos h
    obtain ⟨h1, h2⟩ := List.mem_filter.1 hi
    have h3 : rkN ks i < 0 := of_decide_eq_true h2
    unfold rkN at h3
    have hs := st_st v.nn (n := (i : Int))
    exact (leS.zero hs).safe (rowOf_neg.1 h3)
  · intro h
    have hz := zeroS_st v
    have hb := numS_bd v.nn hz
    have hm : (numS ks (zeroS ks)).toNat ∈ (List.range (nSt ks)).filter fun (i : Nat) => decide (rkN ks i < 0) := by
      refine List.mem_filter.2 ⟨List.mem_range.2 (by omega), decide_eq_true ?_⟩
      rw [show (((numS ks (zeroS ks)).toNat : Nat) : Int) = numS ks (zeroS ks) by omega]
      unfold rkN
      rw [st_num v.nn hz]
      exact rowOf_neg.2 h
    exact List.length_pos_of_mem hm
theorem cnt_le {ks : List Int} (v : TVal ks) : (cntN ks : Int) ≤ prodK ks := by
  have hN := nSt_eq v
  have := List.length_filter_le (fun (i : Nat) => decide (rkN ks i < 0)) (List.range (nSt ks))
  unfold cntN
  rw [List.length_range] at this
  omega
theorem circleErr_iff {ks : List Int} (v : TVal ks) : (circleErr ks = 0 ∧ SafeP (nxS ks) (zeroS ks)) ∨ (circleErr ks = 17 ∧ ¬ SafeP (nxS ks) (zeroS ks)) := by
  unfold circleErr
  rw [if_neg (fun e => e (tchk_of v))]
  by_cases h : rowOf (nxS ks) (zeroS ks) < 0
  · rw [if_pos h]; exact .inl ⟨rfl, rowOf_neg.1 h⟩
  · rw [if_neg h]; exact .inr ⟨rfl, fun e => h (rowOf_neg.2 e)⟩
def densT (ks : List Int) (k : Nat) : Int := ((ks.take k).map fun k => 27720 / k).sum
theorem densT_succ {ks : List Int} {k : Nat} (h : k < ks.length) : densT ks (k + 1) = densT ks k + 27720 / gt ks k := by
  unfold densT
  rw [List.take_add_one, List.getElem?_eq_getElem h, List.map_append, List.sum_append, ← gt_get h]
  simp
theorem densT_all {ks : List Int} {k : Nat} (h : ks.length ≤ k) : densT ks k = dens ks := by
  unfold densT dens
  rw [List.take_of_length_le h]
theorem densT_bd {ks : List Int} (v : TVal ks) : ∀ k, k ≤ 5 → 0 ≤ densT ks k ∧ densT ks k ≤ 27720 * k
  | 0, _ => by simp [densT]
  | k + 1, h => by
    have ih := densT_bd v k (by omega)
    by_cases hk : k < ks.length
    · have h1 := v.at_ k hk
      have h2 : gt ks k = ks.getD k 0 := rfl
      rw [densT_succ hk]
      have h3 : 0 ≤ 27720 / gt ks k := Int.ediv_nonneg (by omega) (by omega)
      have h4 : 27720 / gt ks k ≤ 27720 := Int.ediv_le_self _ (by omega)
      omega
    · have e1 := densT_all (k := k + 1) (show ks.length ≤ k + 1 by omega)
      have e2 := densT_all (k := k) (show ks.length ≤ k by omega)
      rw [e1, ← e2]
      omega
/-- the error of Doom for some state -/
def DenE (ks : List Int) (er : Int) : Prop := ∃ s, isSt ks s = true ∧ er = doomRErr ks s
def DenV (ks : List Int) (v : Value) : Prop := ∃ er, v = .int .i64 er ∧ DenE ks er
def DenP (ks : List Int) (v : Value) : Prop := ∃ r er, v = .tuple #[r, .int .i64 er] ∧ DenE ks er
set_option maxRecDepth 100000 in
set_option maxHeartbeats 8000000 in
theorem turnDense_any (ks : List Int) (kv : Value) (bv : Value) (bs : List Int) (w : World) (hv : IsInts w .i64 kv ks) (hb : IsInts w .u8 bv bs) (hw8 : ∀ x ∈ bs, (Lit.int .u8 x).wf = true) :
    Calls Try.prog 13 #[.agg #[kv], bv] w fun e W => e = .returned (.bool true) ∧ Ext w W := by
  obtain ⟨sa, cap, rfl, h1, h2, -⟩ := hv.spec
  obtain ⟨ba, bcap, rfl, h3, h4, -⟩ := hb.spec
  have HV := Lib.hid hv
  have HB0 := Lib.hid hb
  have H8 := Lib.hid (u8s hw8)
  clear hv hb hw8
  go_enter Try.func13, Try.ntmps13
  go_upto_region 1 with (fail)
  obtain ⟨W0, hW0⟩ : ∃ W0, W0 = w.alloc (.cells #[.slice sa ks.length cap] 24) := ⟨_, rfl⟩
  have hE : Ext w W0 := by rw [hW0]; exact (by repeat (first | exact Below.refl _ _ | refine Ext.al ?_ _ | refine Ext.dr ?_ | refine Ext.drN ?_ _ | refine Ext.gr ?_ _ | refine Ext.set ?_ (by simp) _ | (refine Ext.trans' ?_ (by assumption))))
  have k0 : W0.cell? ⟨w.heap.size, 0, none⟩ = some (.slice sa ks.length cap) := by rw [hW0]; simp [go_sem]
  have hz : w.heap.size < W0.heap.size := World.block_lt_of_cell? _ _ k0
  have HS := Lib.hid (HV.out.ext hE)
  have HW := Lib.hid hE
  rw [← hW0]
  clear hW0 HV
  have HB := Lib.hid (HB0.out.ext hE)
  clear hE HB0



  go_wp2_with fail
  refine callW (W0 := W0) (g := ⟨W0, Below.refl _ _⟩) (by exact (by repeat (first | exact Below.refl _ _ | refine Ext.al ?_ _ | refine Ext.dr ?_ | refine Ext.drN ?_ _ | refine Ext.gr ?_ _ | refine Ext.set ?_ (by simp) _ | (refine Ext.trans' ?_ (by assumption))))) (fineL_any ks _ _ (HS.out.ext (by exact (by repeat (first | exact Below.refl _ _ | refine Ext.al ?_ _ | refine Ext.dr ?_ | refine Ext.drN ?_ _ | refine Ext.gr ?_ _ | refine Ext.set ?_ (by simp) _ | (refine Ext.trans' ?_ (by assumption))))))) fun g1 hgr => ?_
  clear hgr
  cases hfn : fineB ks
  · clear hfn

    go_wp2_with fail
    refine callW (W0 := W0) (g := g1) (by exact (by repeat (first | exact Below.refl _ _ | refine Ext.al ?_ _ | refine Ext.dr ?_ | refine Ext.drN ?_ _ | refine Ext.gr ?_ _ | refine Ext.set ?_ (by simp) _ | (refine Ext.trans' ?_ (by assumption))))) (works_any _) fun g2 hgr => ?_
    clear hgr
    go_wp2_with fail
    go_ret
    exact ⟨rfl, HW.out.trans' (grow_below W0 g2)⟩

  have V := Lib.hid (tval_of (of_decide_eq_true hfn))
  have n1 := V.out.n1
  have n5 := V.out.n5
  clear hfn
  by_cases hb20 : 20 < bs.length
  · have hd : decide ((20 : Int) < (bs.length : Int)) = true := decide_eq_true (by omega)
    clear hb20

    go_wp2_with fail
    refine callW (W0 := W0) (g := g1) (by exact (by repeat (first | exact Below.refl _ _ | refine Ext.al ?_ _ | refine Ext.dr ?_ | refine Ext.drN ?_ _ | refine Ext.gr ?_ _ | refine Ext.set ?_ (by simp) _ | (refine Ext.trans' ?_ (by assumption))))) (works_any _) fun g3 hgr => ?_
    clear hgr
    go_wp2_with fail
    go_ret
    exact ⟨rfl, HW.out.trans' (grow_below W0 g3)⟩

  have hd : decide ((20 : Int) < (bs.length : Int)) = false := decide_eq_false (by omega)
  clear hb20
  go_upto_region 3 with (fail)
  obtain ⟨U, hU⟩ : ∃ zz9, zz9 = (grow W0 g1) := ⟨_, rfl⟩
  have eU : Ext W0 U := by rw [hU]; exact (by repeat (first | exact Below.refl _ _ | refine Ext.al ?_ _ | refine Ext.dr ?_ | refine Ext.drN ?_ _ | refine Ext.gr ?_ _ | refine Ext.set ?_ (by simp) _ | (refine Ext.trans' ?_ (by assumption))))
  replace k0 := cell_ext eU k0
  replace HS := Lib.hid (HS.out.ext eU)
  replace HB := Lib.hid (HB.out.ext eU)
  replace HW := Lib.hid (HW.out.trans' eU)
  rw [← hU]
  replace hz := World.block_lt_of_cell? _ _ k0
  clear hU eU
  simp only at hz
  obtain ⟨kb, ko, rfl, hkz, HKC⟩ := HS.out.at_all n1
  have KC := Lib.hid (HKC U (Below.refl _ _))
  clear HKC
  go_wp2_with fail
  go_loop [5, 6] (fun sv iv => ∃ k : Nat, k ≤ ks.length ∧ iv = .int .i64 k ∧ sv = .int .i64 (densT ks k)) (fun _ iv => ks.length - (intOf iv).toNat)
  case atStart => exact ⟨0, by omega, rfl, rfl⟩
  case round =>
    obtain ⟨k, hk, rfl, rfl⟩ := hrel
    have hdb := densT_bd V.out k (by omega)
    by_cases hlt : k < ks.length
    · have hki : (k : Int) < (ks.length : Int) := by omega
      have c0 := KC.out k hlt
      have hsu := densT_succ hlt
      have h12 := V.out.at_ k hlt
      obtain ⟨x, hx⟩ : ∃ x, x = gt ks k := ⟨_, rfl⟩
      have h12 : 1 ≤ x ∧ x ≤ 12 := by rw [hx]; exact h12
      rw [← hx] at c0 hsu
      obtain ⟨σ, hσ⟩ : ∃ σ, σ = densT ks k := ⟨_, rfl⟩
      rw [← hσ] at hdb hsu ⊢
      obtain ⟨q, hq⟩ : ∃ q, q = 27720 / x := ⟨_, rfl⟩
      have hq0 : 0 ≤ q := by rw [hq]; exact Int.ediv_nonneg (by omega) (by omega)
      have hq1 : q ≤ 27720 := by rw [hq]; exact Int.ediv_le_self _ (by omega)
      have hqt : Int.tdiv 27720 x = q := by rw [hq]; exact Int.tdiv_eq_ediv_of_nonneg (by omega)
      have hqd : 27720 / x = q := hq.symm
      have hxn : (x == 0) = false := by rw [beq_eq_false_iff_ne]; omega
      have hxn2 : ¬ (x = 0) := by omega
      rw [← hq] at hsu
      have HSU := Lib.hid hsu
      clear hsu hx hσ hq
      go_wp2_with fail
      go_round
      case rel => exact ⟨k + 1, by omega, by go_num, by rw [HSU.out]⟩
      case measure => simp [intOf]; omega
    · have hki : ¬ ((k : Int) < (ks.length : Int)) := by omega
      have hall := densT_all (ks := ks) (k := k) (by omega)
      rw [hall] at hdb ⊢
      clear hall
      obtain ⟨D, hD⟩ : ∃ D, D = dens ks := ⟨_, rfl⟩
      rw [← hD] at hdb ⊢
      have HD := Lib.hid hD
      clear hD
      go_upto_region 8 with (fail)
      obtain ⟨Y, hY⟩ : ∃ Y, Y = U := ⟨_, rfl⟩
      subst hY
      refine wp_region_rove (Y.heap.size) (Nat.le_refl _)
        [sqV (.agg #[.slice (some ⟨kb, ko, none⟩) ks.length cap]),
         sqV (.agg #[.slice (some ⟨kb, ko, none⟩) ks.length cap]),
         sqV (.slice ba bs.length bcap),
         sqW (fun v W => ∃ s, isSt ks s = true ∧ IsInts W .i64 v s) (fun _ _ _ ⟨s, h1, h2⟩ e => ⟨s, h1, IsInts.ext e h2⟩),
         sqW (fun v W => DenP ks v) (fun _ _ _ h _ => h),
         sqW (fun v W => DenP ks v) (fun _ _ _ h _ => h),
         sqW (fun v W => True) (fun _ _ _ h _ => h),
         sqW (fun v W => DenV ks v) (fun _ _ _ h _ => h),
         sqW (fun v W => True) (fun _ _ _ h _ => h),
         sqW (fun v W => DenV ks v) (fun _ _ _ h _ => h)]
        [true, true, true, false, false, false, false, false, false, false] [false, false, false, false, false, false, false, false, false, false] [true, true, true, true, true, true, true, true, true, true] [true, true, true, true, true, true, true, true, true, true]
        (by kernel_rfl) (by kernel_rfl) (by decide +kernel) (by decide +kernel) (by decide +kernel) rfl ⟨rfl, rfl⟩ ⟨?s0, ?s1, ?s2, ?s3, ?s4, ?s5, ?s6, ?s7, ?s8, ?s9, trivial⟩ [some 38, some 39, some 40, some 41, some 42, some 37, some 43, some 44, some 7, some 8] rfl rfl ?send
      case s0 =>
        intro val ρ W hE hz hd hA hx
        have o0 : ρ (.tmp 2) = .pointer (some ⟨w.heap.size, 0, none⟩) := hA.old 2 (by decide)
        have f_k0 := cell_below hE (by simp only; omega) k0
        clear hd
        exact runq_val (W' := W) (by simp [execOp, o0, f_k0, go_sem]) (Below.refl _ _) rfl
      case s1 =>
        intro val ρ W hE hz hd hA hx
        have o0 : ρ (.tmp 2) = .pointer (some ⟨w.heap.size, 0, none⟩) := hA.old 2 (by decide)
        have f_k0 := cell_below hE (by simp only; omega) k0
        clear hd
        exact runq_val (W' := W) (by simp [execOp, o0, f_k0, go_sem]) (Below.refl _ _) rfl
      case s2 =>
        intro val ρ W hE hz hd hA hx
        have o0 : ρ (.tmp 1) = .slice ba bs.length bcap := hA.old 1 (by decide)
        clear hd
        exact runq_val (W' := W) (by simp [execOp, o0, go_sem]) (Below.refl _ _) rfl
      case s3 =>
        intro val ρ W hE hz hd hA hx
        have d1 : ρ (.tmp 39) = .agg #[.slice (some ⟨kb, ko, none⟩) ks.length cap] := (hA.dep 1 (by decide) 39 rfl).trans (hd 1 (by decide))
        have d2 : ρ (.tmp 40) = .slice ba bs.length bcap := (hA.dep 2 (by decide) 40 rfl).trans (hd 2 (by decide))
        clear hd
        refine runq_call 47 _ _ rfl #[.agg #[.slice (some ⟨kb, ko, none⟩) ks.length cap], .slice ba bs.length bcap] (hA.func _) (by simp [d1, d2]) (fun args W => Try.call47 args W) ((stateL_any ks bs _ _ W (HS.out.ext hE) (HB.out.ext hE) H8.out V.out).mono ?_)
        rintro e w' ⟨r, s, rfl, hb, hi, hst⟩
        exact ⟨_, rfl, hb, s, hst, hi⟩
      case s4 =>
        intro val ρ W hE hz hd hA hx
        have d0 : ρ (.tmp 38) = .agg #[.slice (some ⟨kb, ko, none⟩) ks.length cap] := (hA.dep 0 (by decide) 38 rfl).trans (hd 0 (by decide))
        obtain ⟨s, hst, q3⟩ : ∃ s, isSt ks s = true ∧ IsInts W .i64 (val 3) s := hd 3 (by decide)
        have d3 : ρ (.tmp 41) = val 3 := hA.dep 3 (by decide) 41 rfl
        clear hd
        refine runq_call 34 _ _ rfl #[.agg #[.slice (some ⟨kb, ko, none⟩) ks.length cap], val 3] (hA.func _) (by simp [d0, d3]) (fun args W => Try.call34 args W) ((doomF_any ks s _ _ W (HS.out.ext hE) q3).mono ?_)
        rintro e w' ⟨r, dl, rfl, hb, -⟩
        exact ⟨_, rfl, hb, r, _, rfl, s, hst, rfl⟩
      case s5 =>
        intro val ρ W hE hz hd hA hx
        obtain ⟨r, er, h1, h2⟩ : DenP ks (val 4) := hd 4 (by decide)
        have dd : ρ (.tmp 42) = .tuple #[r, .int .i64 er] := (hA.dep 4 (by decide) 42 rfl).trans h1
        exact runq_val (W' := W) (v := .tuple #[r, .int .i64 er]) (by simp [execOp, dd, go_sem]) (Below.refl _ _) ⟨r, er, rfl, h2⟩
      case s6 =>
        intro val ρ W hE hz hd hA hx
        obtain ⟨r, er, h1, h2⟩ : DenP ks (val 5) := hd 5 (by decide)
        have dd : ρ (.tmp 37) = .tuple #[r, .int .i64 er] := (hA.dep 5 (by decide) 37 rfl).trans h1
        exact runq_val (W' := W) (v := r) (by simp [execOp, dd, go_sem]) (Below.refl _ _) trivial
      case s7 =>
        intro val ρ W hE hz hd hA hx
        obtain ⟨r, er, h1, h2⟩ : DenP ks (val 5) := hd 5 (by decide)
        have dd : ρ (.tmp 37) = .tuple #[r, .int .i64 er] := (hA.dep 5 (by decide) 37 rfl).trans h1
        exact runq_val (W' := W) (v := .int .i64 er) (by simp [execOp, dd, go_sem]) (Below.refl _ _) ⟨er, rfl, h2⟩
      case s8 =>
        intro val ρ W hE hz hd hA hx
        have dx : ρ (.tmp 43) = val 6 := hA.dep 6 (by decide) 43 rfl
        exact runq_val (W' := W) (v := val 6) (by simp [execOp, dx, go_sem]) (Below.refl _ _) trivial
      case s9 =>
        intro val ρ W hE hz hd hA hx
        obtain ⟨er, h1, h2⟩ : DenV ks (val 7) := hd 7 (by decide)
        have dx : ρ (.tmp 44) = .int .i64 er := (hA.dep 7 (by decide) 44 rfl).trans h1
        exact runq_val (W' := W) (v := .int .i64 er) (by simp [execOp, dx, go_sem]) (Below.refl _ _) ⟨er, rfl, h2⟩
      case send =>
        intro val WW hE hzz hv
        obtain ⟨-, -, -, -, -, -, -, -, -, q9, -⟩ := hv
        obtain ⟨er, q9', s, hst, her⟩ : DenV ks (val 9) := q9
        simp only [putD, q9']
        go_frame
        have hEY : Ext Y WW := hE
        have k2 := cell_ext hEY k0
        have hz2 := World.block_lt_of_cell? _ _ k2
        simp only at hz2
        have HSY := Lib.hid (HS.out.ext hEY)
        have HR := Lib.hid (HW.out.trans' hEY)
        have HST := Lib.hid hst
        have HER := Lib.hid her
        clear hE hzz hEY q9' k0 hst her





        go_wp2_with fail
        refine callWR (W0 := WW) (g := ⟨WW, Below.refl _ _⟩) (by exact (by repeat (first | exact Below.refl _ _ | refine Ext.al ?_ _ | refine Ext.dr ?_ | refine Ext.drN ?_ _ | refine Ext.gr ?_ _ | refine Ext.set ?_ (by simp) _ | (refine Ext.trans' ?_ (by assumption))))) (circleT_any ks _ _ (HSY.out.ext (by exact (by repeat (first | exact Below.refl _ _ | refine Ext.al ?_ _ | refine Ext.dr ?_ | refine Ext.drN ?_ _ | refine Ext.gr ?_ _ | refine Ext.set ?_ (by simp) _ | (refine Ext.trans' ?_ (by assumption))))))) (fun _ _ ⟨_, _, _, r, _⟩ => r) fun _ g1 hgr hr => ?_
        obtain ⟨x, row, rfl, -, hI, hcr⟩ := hr
        clear hgr
        obtain ⟨a1, c1, rfl, -⟩ := hI.spec
        have HI := Lib.hid hI
        have HCR := Lib.hid hcr
        clear hI hcr

        go_wp2_with fail
        refine callW (W0 := WW) (g := g1) (by exact (by repeat (first | exact Below.refl _ _ | refine Ext.al ?_ _ | refine Ext.dr ?_ | refine Ext.drN ?_ _ | refine Ext.gr ?_ _ | refine Ext.set ?_ (by simp) _ | (refine Ext.trans' ?_ (by assumption))))) (count_any ks _ _ (HSY.out.ext (by exact (by repeat (first | exact Below.refl _ _ | refine Ext.al ?_ _ | refine Ext.dr ?_ | refine Ext.drN ?_ _ | refine Ext.gr ?_ _ | refine Ext.set ?_ (by simp) _ | (refine Ext.trans' ?_ (by assumption))))))) fun g2 hgr => ?_
        replace HI := Lib.hid (HI.out.ext hgr)
        clear hgr
        have hce : countErr ks = ((cntN ks : Int), 0) := by unfold countErr; rw [if_neg (fun e => e (tchk_of V.out))]
        rw [hce]
        have hcl := cnt_le V.out
        have hcp := cnt_pos V.out
        obtain ⟨n, hn⟩ : ∃ n, n = cntN ks := ⟨_, rfl⟩
        obtain ⟨p, hp⟩ : ∃ p, p = prodK ks := ⟨_, rfl⟩
        rw [← hn] at hcl hcp ⊢
        rw [← hp] at hcl
        have HP := Lib.hid hp
        have HCP := Lib.hid hcp
        have hn0 : decide ((n : Int) < 0) = false := decide_eq_false (by omega)
        have hnp : decide (p < (n : Int)) = false := decide_eq_false (by omega)
        clear hce hcp hn hp
        go_wp2_with fail
        refine callW (W0 := WW) (g := g2) (by exact (by repeat (first | exact Below.refl _ _ | refine Ext.al ?_ _ | refine Ext.dr ?_ | refine Ext.drN ?_ _ | refine Ext.gr ?_ _ | refine Ext.set ?_ (by simp) _ | (refine Ext.trans' ?_ (by assumption))))) (statesR_any ks _ _ (HSY.out.ext (by exact (by repeat (first | exact Below.refl _ _ | refine Ext.al ?_ _ | refine Ext.dr ?_ | refine Ext.drN ?_ _ | refine Ext.gr ?_ _ | refine Ext.set ?_ (by simp) _ | (refine Ext.trans' ?_ (by assumption)))))) V.out) fun g3 hgr => ?_
        replace HI := Lib.hid (HI.out.ext hgr)
        clear hgr
        rw [← HP.out]
        by_cases hD1 : 27720 < D
        · have hd1 : decide ((27720 : Int) < D) = true := decide_eq_true hD1
          have hns : ∀ t, isSt ks t = true → ¬ SafeP (nxS ks) t := fun t ht h => by
            have := dens_le V.out ht h
            have := HD.out
            omega
          have he0 : er = 0 := by
            rcases doomR_cases V.out HST.out with ⟨e1, -⟩ | ⟨-, e2, -⟩
            · rw [HER.out]; exact e1
            · exact absurd e2 (hns _ HST.out)
          have hc17 : circleErr ks = 17 := by
            rcases circleErr_iff V.out with ⟨-, e2⟩ | ⟨e1, -⟩
            · exact absurd e2 (hns _ (zeroS_st V.out))
            · exact e1
          have hn00 : n = 0 := by
            have := HCP.out
            rcases Nat.eq_zero_or_pos n with h | h
            · exact h
            · exact absurd (this.1 h) (hns _ (zeroS_st V.out))
          subst hn00
          subst he0
          rw [hc17]
          clear hD1 hns hc17

          go_wp2_with fail
          refine callW (W0 := WW) (g := g3) (by exact (by repeat (first | exact Below.refl _ _ | refine Ext.al ?_ _ | refine Ext.dr ?_ | refine Ext.drN ?_ _ | refine Ext.gr ?_ _ | refine Ext.set ?_ (by simp) _ | (refine Ext.trans' ?_ (by assumption))))) (works_any _) fun g4 hgr => ?_
          replace HI := Lib.hid (HI.out.ext hgr)
          clear hgr
          go_wp2_with fail
          go_ret
          exact ⟨rfl, HR.out.trans' (grow_below WW g4)⟩

        have hd1 : decide ((27720 : Int) < D) = false := decide_eq_false hD1
        by_cases hD2 : 6 * D ≤ 138600
        · have hd2 : decide (6 * D ≤ 138600) = true := decide_eq_true hD2
          have hsafe := sparse_safe V.out (by have := HD.out; omega)
          have hc0 : circleErr ks = 0 := by
            rcases circleErr_iff V.out with ⟨e1, -⟩ | ⟨-, e2⟩
            · exact e1
            · exact absurd hsafe e2
          have hce := circErr_of V.out (HCR.out.ne hc0) HCR.out.le (HCR.out.win hc0) (HCR.out.circ hc0)
          have hnp2 : 0 < n := HCP.out.2 hsafe
          have hng : decide ((0 : Int) < (n : Int)) = true := decide_eq_true (by omega)
          have hng2 : decide (0 < n) = true := decide_eq_true hnp2
          have HCE := Lib.hid hce
          rw [hc0]
          clear hD1 hD2 hsafe hc0 hce

          go_wp2_with fail
          refine callW (W0 := WW) (g := g3) (by exact (by repeat (first | exact Below.refl _ _ | refine Ext.al ?_ _ | refine Ext.dr ?_ | refine Ext.drN ?_ _ | refine Ext.gr ?_ _ | refine Ext.set ?_ (by simp) _ | (refine Ext.trans' ?_ (by assumption))))) (checkCircleR_any ks row _ _ _ (HSY.out.ext (by exact (by repeat (first | exact Below.refl _ _ | refine Ext.al ?_ _ | refine Ext.dr ?_ | refine Ext.drN ?_ _ | refine Ext.gr ?_ _ | refine Ext.set ?_ (by simp) _ | (refine Ext.trans' ?_ (by assumption)))))) (HI.out.ext (by exact (by repeat (first | exact Below.refl _ _ | refine Ext.al ?_ _ | refine Ext.dr ?_ | refine Ext.drN ?_ _ | refine Ext.gr ?_ _ | refine Ext.set ?_ (by simp) _ | (refine Ext.trans' ?_ (by assumption))))))) fun g5 hgr => ?_
          replace HI := Lib.hid (HI.out.ext hgr)
          clear hgr
          rw [HCE.out]
          go_wp2_with fail
          refine callW (W0 := WW) (g := g5) (by exact (by repeat (first | exact Below.refl _ _ | refine Ext.al ?_ _ | refine Ext.dr ?_ | refine Ext.drN ?_ _ | refine Ext.gr ?_ _ | refine Ext.set ?_ (by simp) _ | (refine Ext.trans' ?_ (by assumption))))) (works_any _) fun g6 hgr => ?_
          replace HI := Lib.hid (HI.out.ext hgr)
          clear hgr
          go_wp2_with fail
          go_ret
          exact ⟨rfl, HR.out.trans' (grow_below WW g6)⟩

        have hd2 : decide (6 * D ≤ 138600) = false := decide_eq_false hD2
        clear hD1 hD2
        rcases circleErr_iff V.out with ⟨e1, e2⟩ | ⟨e1, e2⟩
        · have hnp2 : 0 < n := HCP.out.2 e2
          have hng : decide ((0 : Int) < (n : Int)) = true := decide_eq_true (by omega)
          have hng2 : decide (0 < n) = true := decide_eq_true hnp2
          rw [e1]
          clear e1 e2

          go_wp2_with fail
          refine callW (W0 := WW) (g := g3) (by exact (by repeat (first | exact Below.refl _ _ | refine Ext.al ?_ _ | refine Ext.dr ?_ | refine Ext.drN ?_ _ | refine Ext.gr ?_ _ | refine Ext.set ?_ (by simp) _ | (refine Ext.trans' ?_ (by assumption))))) (works_any _) fun g7 hgr => ?_
          replace HI := Lib.hid (HI.out.ext hgr)
          clear hgr
          go_wp2_with fail
          go_ret
          exact ⟨rfl, HR.out.trans' (grow_below WW g7)⟩

        · have hn00 : n = 0 := by
            have := HCP.out
            rcases Nat.eq_zero_or_pos n with h | h
            · exact h
            · exact absurd (this.1 h) e2
          subst hn00
          rw [e1]
          clear e1 e2
          go_wp2_with fail
          refine callW (W0 := WW) (g := g3) (by exact (by repeat (first | exact Below.refl _ _ | refine Ext.al ?_ _ | refine Ext.dr ?_ | refine Ext.drN ?_ _ | refine Ext.gr ?_ _ | refine Ext.set ?_ (by simp) _ | (refine Ext.trans' ?_ (by assumption))))) (works_any _) fun g8 hgr => ?_
          replace HI := Lib.hid (HI.out.ext hgr)
          clear hgr
          go_wp2_with fail
          go_ret
          exact ⟨rfl, HR.out.trans' (grow_below WW g8)⟩
end Go.Proofs.Ytndgaklcnhoddaa
namespace Go.Proofs.Ytndgaklcnhoddaa
open Go.RowKit
open Go.ChangeShapes Go.WideShapes Go.ChangeAt in
set_option maxRecDepth 100000 in
theorem turnDense_lifted (os : Os) (started : os.Started) (H : Type) (enc : TypeId × Value → H) :
    ReturnsInHanded {} Try.checked os 13 .any (Rows.turnDenseSpec.pre6 enc Try.prog Try.f13 Rows.turnDenseRow.domain false) (Rows.turnDenseSpec.post enc Try.prog Try.f13 false true false false) := by
  refine returnsInHanded_of_change (C := Try.checked) own started (by kernel_rfl) Try.func13
    (ChangeSpec.witness6 (enc := enc) (C := Try.checked) false ⟨#[], #[.agg #[.slice none 0 0], .slice none 0 0], []⟩ 8 (by kernel_rfl) (by kernel_rfl) (by kernel_rfl) (by kernel_rfl)) ?_
  intro W base args ds gs before hval0 hW hcnd _
  have hval : ∀ (j : Nat) t v, Try.f13.params[j]? = some t → args[j]? = some v → Value.okWide Try.prog W .any base t v := hval0
  have hW' := hW
  obtain ⟨p, q, hA0, hV, rfl, hfz, hnd⟩ := hW
  have hA : DataW.TrodAll enc Try.prog W 0 (fun _ => true) true Try.f13.params.toList args.toList ds p := hA0
  rw [Try.params13] at hA hval
  obtain ⟨v0, vs0, d0, ds0, p0, q0, hargs, rfl, rfl, h0, r0⟩ := trodAll_cons hA
  obtain ⟨v1, vs1, d1, ds1, p1, q1, rfl, rfl, rfl, h1, r1⟩ := trodAll_cons r0
  obtain ⟨rfl, rfl, rfl⟩ := trodAll_nil r1
  obtain rfl : args = #[v0, v1] := by cases args; simp_all
  obtain ⟨ks, sks, rfl, hks⟩ := openHall (hval 0 24 v0 rfl rfl) h0
  obtain ⟨bs, hbs, wbs⟩ := openNumsK (k := .u8) Try.underlying52 Try.underlying5 (by kernel_rfl) (hval 1 52 v1 rfl rfl) h1
  clear hA0 hval0
  refine (turnDense_any ks sks v1 bs W hks hbs wbs).mono fun e W' ⟨he, hb⟩ => ?_
  subst he
  exact ⟨_, rfl, law_post laidOut (tb := 4) (hts_of (by kernel_rfl)) (by kernel_rfl) Try.underlying4 hW' rfl rfl hb⟩
theorem turnDense_holds : Rows.TurnDenseSaid :=
  OpenClaim.holds_of_wide 13 Try.f13 rfl rfl rfl rfl rfl rfl rfl ⟨rfl, rfl, rfl, rfl, rfl⟩ rfl rfl rfl rfl rfl (by kernel_rfl) Try.func13 (by kernel_rfl)
    (of_decide_eq_true (by kernel_rfl)) (by unfold Func.isWrapper; first | (rw [if_pos (by decide +kernel)]; kernel_rfl) | (rw [if_neg (by decide +kernel)]; exact ⟨rfl, rfl⟩))
    (fun os started H enc _ => turnDense_lifted os started H enc)
end Go.Proofs.Ytndgaklcnhoddaa
