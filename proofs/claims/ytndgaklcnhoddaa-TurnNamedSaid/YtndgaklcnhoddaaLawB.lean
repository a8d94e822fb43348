/-
  The walks of the statements' functions fine, State, Row.
-/
import Derived.Test.YtndgaklcnhoddaaHalls
import Derived.Test.YtndgaklcnhoddaaWide
namespace Go.Proofs.Ytndgaklcnhoddaa
open Go.RowKit Go.Shelf
/-- where numbers of any kind lie, in all later worlds -/
theorem IsInts.at_allK {w : World} {κ : IntKind} {sa : Option Addr} {n cap : Nat} {l : List Int} (h : IsInts w κ (.slice sa n cap) l) (hl : 0 < l.length) :
    ∃ b off, sa = some ⟨b, off, none⟩ ∧ b < w.heap.size ∧ ∀ W, Ext w W → ∀ i, i < l.length → W.cell? ⟨b, off + i, none⟩ = some (.int κ (gt l i)) := by
  obtain ⟨sa', cap', e, -, -, hcc⟩ := h.spec
  cases e
  rcases hcc with hcc | ⟨b, off, rfl, hcc⟩
  · rw [hcc] at hl; simp at hl
  · have h0 := World.block_lt_of_cell? _ _ (hcc 0 hl)
    refine ⟨b, off, rfl, h0, fun W hW i hi => ?_⟩
    rw [← gt_get hi]
    exact cell_ext hW (hcc i hi)
def fineB (ks : List Int) : Bool := decide (tchk ks = 0)
set_option maxRecDepth 100000 in
set_option maxHeartbeats 1000000 in
theorem fineL_any (ks : List Int) (kv : Value) (w : World) (hv : IsInts w .i64 kv ks) :
    Calls Try.prog 46 #[.agg #[kv]] w fun e W => e = .returned (.bool (fineB ks)) ∧ Ext w W := by
  obtain ⟨sa, cap, rfl, h1, h2, -⟩ := hv.spec
  have HV := Lib.hid hv
  clear hv
  go_enter Try.func46, Try.ntmps46
  go_upto_region 1 with (fail)
  obtain ⟨W0, hW0⟩ : ∃ W0, W0 = w.alloc (.cells #[.slice sa ks.length cap] 24) := ⟨_, rfl⟩
  have hE : Ext w W0 := by rw [hW0]; exact (by repeat (first | exact Below.refl _ _ | refine Ext.al ?_ _ | refine Ext.dr ?_ | refine Ext.drN ?_ _ | refine Ext.gr ?_ _ | refine Ext.set ?_ (by simp) _ | (refine Ext.trans' ?_ (by assumption))))
  have k0 : W0.cell? ⟨w.heap.size, 0, none⟩ = some (.slice sa ks.length cap) := by rw [hW0]; simp [go_sem]
  have hz : w.heap.size < W0.heap.size := World.block_lt_of_cell? _ _ k0
  have HS := Lib.hid (HV.out.ext hE)
  have HW := Lib.hid hE
  rw [← hW0]
  clear hW0 HV
  clear hE



  go_wp2_with fail
  refine callW (W0 := W0) (g := ⟨W0, Below.refl _ _⟩) (by exact (by repeat (first | exact Below.refl _ _ | refine Ext.al ?_ _ | refine Ext.dr ?_ | refine Ext.drN ?_ _ | refine Ext.gr ?_ _ | refine Ext.set ?_ (by simp) _ | (refine Ext.trans' ?_ (by assumption))))) (greatL_any ks _ _ (HS.out.ext (by exact (by repeat (first | exact Below.refl _ _ | refine Ext.al ?_ _ | refine Ext.dr ?_ | refine Ext.drN ?_ _ | refine Ext.gr ?_ _ | refine Ext.set ?_ (by simp) _ | (refine Ext.trans' ?_ (by assumption))))))) fun g1 hgr => ?_
  clear hgr
  by_cases hg : 10 < ks.length
  · have hf : fineB ks = false := by
      unfold fineB
      refine decide_eq_false fun h => ?_
      have := (tval_of h).n5
      omega
    have HF := Lib.hid hf
    rw [decide_eq_true hg]
    clear hg hf
    go_wp2_with fail
    go_ret
    exact ⟨ret_bool (by rw [HF.out]), HW.out.trans' (grow_below W0 _)⟩
  rw [decide_eq_false hg]
  clear hg
  go_wp2_with fail
  refine callW (W0 := W0) (g := g1) (by exact (by repeat (first | exact Below.refl _ _ | refine Ext.al ?_ _ | refine Ext.dr ?_ | refine Ext.drN ?_ _ | refine Ext.gr ?_ _ | refine Ext.set ?_ (by simp) _ | (refine Ext.trans' ?_ (by assumption))))) (checkHallR_any ks _ _ (HS.out.ext (by exact (by repeat (first | exact Below.refl _ _ | refine Ext.al ?_ _ | refine Ext.dr ?_ | refine Ext.drN ?_ _ | refine Ext.gr ?_ _ | refine Ext.set ?_ (by simp) _ | (refine Ext.trans' ?_ (by assumption))))))) fun g2 hgr => ?_
  clear hgr
  by_cases hc : tchk ks = 0
  · have HC := Lib.hid hc
    rw [hc]
    clear hc
    go_wp2_with fail
    go_ret
    exact ⟨ret_bool (by unfold fineB; rw [decide_eq_true HC.out]), HW.out.trans' (grow_below W0 _)⟩
  · have e1 : (tchk ks == 0) = false := by simpa using hc
    have HC := Lib.hid hc
    clear hc
    go_wp2_with fail
    go_ret
    exact ⟨ret_bool (by unfold fineB; rw [decide_eq_false HC.out]), HW.out.trans' (grow_below W0 _)⟩
/-- some state, in memory of its own -/
def RetSt (ks : List Int) (w : World) (e : Ending) (W : World) : Prop := ∃ r s, e = .returned r ∧ Ext w W ∧ IsInts W .i64 r s ∧ isSt ks s = true
theorem gt_u8 {bs : List Int} (h : ∀ x ∈ bs, 0 ≤ x ∧ x ≤ 255) {i : Nat} (hi : i < bs.length) : 0 ≤ gt bs i ∧ gt bs i ≤ 255 := by
  rw [← gt_get hi]; exact h _ (List.getElem_mem hi)
set_option maxRecDepth 100000 in
set_option maxHeartbeats 2000000 in
theorem stateL_any (ks bs : List Int) (kv bv : Value) (w : World) (hv : IsInts w .i64 kv ks) (hb : IsInts w .u8 bv bs) (h8 : ∀ x ∈ bs, 0 ≤ x ∧ x ≤ 255) (v : TVal ks) :
    Calls Try.prog 47 #[.agg #[kv], bv] w (RetSt ks w) := by
  obtain ⟨sa, cap, rfl, h1, h2, -⟩ := hv.spec
  obtain ⟨ba, bcap, rfl, h3, h4, -⟩ := hb.spec
  have HV := Lib.hid hv
  have HB0 := Lib.hid hb
  have H8 := Lib.hid h8
  have V := Lib.hid v
  have n1 := v.n1
  have n5 := v.n5
  clear hv hb v h8
  go_enter Try.func47, Try.ntmps47
  go_upto_region 1 with (fail)
  obtain ⟨W0, hW0⟩ : ∃ W0, W0 = w.alloc (.cells #[.slice sa ks.length cap] 24) := ⟨_, rfl⟩
  have hE : Ext w W0 := by rw [hW0]; exact (by repeat (first | exact Below.refl _ _ | refine Ext.al ?_ _ | refine Ext.dr ?_ | refine Ext.drN ?_ _ | refine Ext.gr ?_ _ | refine Ext.set ?_ (by simp) _ | (refine Ext.trans' ?_ (by assumption))))
  have k0 : W0.cell? ⟨w.heap.size, 0, none⟩ = some (.slice sa ks.length cap) := by rw [hW0]; simp [go_sem]
  have hz : w.heap.size < W0.heap.size := World.block_lt_of_cell? _ _ k0
  have HS := Lib.hid (HV.out.ext hE)
  have HW := Lib.hid hE
  rw [← hW0]
  clear hW0 HV
  have HB := Lib.hid (HB0.out.ext hE)
  clear hE HB0
  obtain ⟨kb, ko, rfl, hkz, HKC⟩ := HS.out.at_all n1
  have KC := Lib.hid HKC
  clear HKC
  go_wp2_with fail
  refine (emptyR_any ks _ _ (HS.out.ext (by exact (by repeat (first | exact Below.refl _ _ | refine Ext.al ?_ _ | refine Ext.dr ?_ | refine Ext.drN ?_ _ | refine Ext.gr ?_ _ | refine Ext.set ?_ (by simp) _ | (refine Ext.trans' ?_ (by assumption)))))) (by omega)).mono ?_
  rintro e W1 ⟨g, rfl, hE1, hg, hN⟩
  have hz1 := hN.lt
  have HN := Lib.hid hN
  have HE1 := Lib.hid hE1
  clear hE1 hN
  go_wp2_with fail
  go_loopw [6] (fun iv W => ∃ (k : Nat) (f : Nat → Int), k ≤ ks.length ∧ iv = .int .i64 k ∧ Ext W0 W ∧ NumB W g ks.length f ∧ ∀ j, j < ks.length → 0 ≤ f j ∧ f j ≤ gt ks j) (fun iv _ => ks.length - (intOf iv).toNat)
  case atStart => exact ⟨0, _, by omega, rfl, HE1.out, HN.out, fun j hj => by have := V.out.at_ j hj; unfold gt; omega⟩
  case round =>
    obtain ⟨k, f, hk, rfl, hE, hnum, hf⟩ := hrel
    have HF := Lib.hid hf
    have HNUM := Lib.hid hnum
    have HE := Lib.hid hE
    have hgz := hnum.lt
    have k1 := cell_ext hE k0
    have hz2 := World.block_lt_of_cell? _ _ k1
    simp only at hz2
    have hfin : ∃ s, IsInts wr .i64 (.slice (some ⟨g, 0, none⟩) ks.length ks.length) s ∧ isSt ks s = true := by
      refine ⟨(List.range ks.length).map f, ?_, isSt_of (by simp) fun i hi => ?_⟩
      · refine (hnum.congr fun j hj => ?_).intsC (by simp) (Nat.le_refl _) (by omega)
        unfold gt
        rw [List.getD_eq_getElem?_getD, List.getElem?_map, List.getElem?_range hj]; rfl
      · rw [List.getD_eq_getElem?_getD, List.getElem?_map, List.getElem?_range hi]
        exact hf i hi
    have HFIN := Lib.hid hfin
    clear hfin
    by_cases hlt : k < ks.length
    · have hki : (k : Int) < (ks.length : Int) := by omega
      by_cases hb0 : 0 < bs.length
      · have hbi : (0 : Int) < (bs.length : Int) := by omega
        obtain ⟨bb, bo, rfl, hbz, hbc⟩ := HB.out.at_allK hb0
        obtain ⟨J, hJ⟩ : ∃ J, J = k % bs.length := ⟨_, rfl⟩
        have hJl : J < bs.length := by rw [hJ]; exact Nat.mod_lt _ hb0
        have hJi : (J : Int) < (bs.length : Int) := by omega
        have c0 := hbc wr hE J hJl
        have hx8 := gt_u8 H8.out hJl
        obtain ⟨x, hx⟩ : ∃ x, x = gt bs J := ⟨_, rfl⟩
        rw [← hx] at c0 hx8
        have d0 := KC.out wr hE k hlt
        have hm12 := V.out.at_ k hlt
        obtain ⟨m, hm⟩ : ∃ m, m = gt ks k := ⟨_, rfl⟩
        have hm12 : 1 ≤ m ∧ m ≤ 12 := by rw [hm]; exact hm12
        rw [← hm] at d0
        have hcz := World.block_lt_of_cell? _ _ c0
        have hdz := World.block_lt_of_cell? _ _ d0
        simp only at hcz hdz
        have hmd : (k : Int) % (bs.length : Int) = (J : Int) := by rw [hJ]; rfl
        have hmt : Int.tmod (k : Int) (bs.length : Int) = (J : Int) := by rw [← hmd]; exact Int.tmod_eq_emod_of_nonneg (by omega)
        have hwJ : IntKind.i64.wrap (J : Int) = (J : Int) := IntWalk.i64_in _ (by omega)
        have hbn : ((bs.length : Int) == 0) = false := by rw [beq_eq_false_iff_ne]; omega
        have hbn2 : ¬ ((bs.length : Int) = 0) := by omega
        have hbn3 : ¬ bs = [] := fun h => by rw [h] at hb0; simp at hb0
        obtain ⟨y, hy⟩ : ∃ y, y = x % (m + 1) := ⟨_, rfl⟩
        have hy0 := Int.emod_nonneg x (show m + 1 ≠ 0 by omega)
        have hy1 := Int.emod_lt_of_pos x (show 0 < m + 1 by omega)
        rw [← hy] at hy0 hy1
        have hw1 : IntKind.i64.wrap x = x := IntWalk.i64_in _ (by omega)
        have hw2 : IntKind.i64.wrap (m + 1) = m + 1 := IntWalk.i64_in _ (by omega)
        have hw3 : IntKind.i64.wrap y = y := IntWalk.i64_in _ (by omega)
        have hyt : Int.tmod x (m + 1) = y := by rw [hy]; exact Int.tmod_eq_emod_of_nonneg (by omega)
        have hmn : ¬ (m + 1 = 0) := by omega
        have f0 := hnum.free k
        have g0 := hnum.cell k hlt
        have HM := Lib.hid hm
        clear hf hnum hE hbc hx hJ hmd hm hy
        go_upto_region 5 with (fail)
        obtain ⟨Z, hZ⟩ : ∃ Z, Z = wr := ⟨_, rfl⟩
        subst hZ
        refine wp_region_rove_tail rfl rfl (by kernel_rfl) (Z.heap.size) (Nat.le_refl _)
          [sqV (.slice (some ⟨g, 0, none⟩) ks.length ks.length),
           sqV (.int .i64 k),
           sqV (.slice (some ⟨bb, bo, none⟩) bs.length bcap),
           sqV (.int .i64 k),
           sqV (.slice (some ⟨bb, bo, none⟩) bs.length bcap),
           sqV (.int .i64 bs.length),
           sqV (.int .i64 J),
           sqV (.pointer (some ⟨bb, bo + J, none⟩)),
           sqV (.int .u8 x),
           sqV (.int .i64 x),
           sqV (.pointer (some ⟨w.heap.size, 0, none⟩)),
           sqV (.slice (some ⟨kb, ko, none⟩) ks.length cap),
           sqV (.int .i64 k),
           sqV (.pointer (some ⟨kb, ko + k, none⟩)),
           sqV (.int .i64 m),
           sqV (.int .i64 (m + 1)),
           sqV (.int .i64 y),
           sqV (.pointer (some ⟨g, k, none⟩))]
          [true, true, true, true, true, true, true, true, true, true, true, true, true, true, true, true, true, true] [false, false, false, false, false, false, false, false, false, false, false, false, false, false, false, false, false, false] [true, true, true, true, true, true, true, true, true, true, true, true, true, true, true, true, true, true] [true, true, true, true, true, true, true, true, true, true, true, true, true, true, true, true, true, true]
          (by kernel_rfl) (by kernel_rfl) (by decide +kernel) (by decide +kernel) (by decide +kernel) rfl ⟨rfl, rfl⟩ ⟨?s0, ?s1, ?s2, ?s3, ?s4, ?s5, ?s6, ?s7, ?s8, ?s9, ?s10, ?s11, ?s12, ?s13, ?s14, ?s15, ?s16, ?s17, trivial⟩ [some 20, some 21, some 22, some 23, some 24, some 25, some 26, some 27, some 28, some 29, some 30, some 31, some 32, some 33, some 34, some 35, some 36, some 37] rfl rfl ?send
        case s0 =>
          intro val ρ W hE hz hd hA hx
          have o0 : ρ (.tmp 5) = .slice (some ⟨g, 0, none⟩) ks.length ks.length := hA.old 5 (by decide)
          clear hd
          exact runq_val (W' := W) (by simp [execOp, o0, go_sem]) (Below.refl _ _) rfl
        case s1 =>
          intro val ρ W hE hz hd hA hx
          have o0 : ρ (.tmp 6) = .int .i64 k := hA.old 6 (by decide)
          clear hd
          exact runq_val (W' := W) (by simp [execOp, o0, go_sem]) (Below.refl _ _) rfl
        case s2 =>
          intro val ρ W hE hz hd hA hx
          have o0 : ρ (.tmp 1) = .slice (some ⟨bb, bo, none⟩) bs.length bcap := hA.old 1 (by decide)
          clear hd
          exact runq_val (W' := W) (by simp [execOp, o0, go_sem]) (Below.refl _ _) rfl
        case s3 =>
          intro val ρ W hE hz hd hA hx
          have o0 : ρ (.tmp 6) = .int .i64 k := hA.old 6 (by decide)
          clear hd
          exact runq_val (W' := W) (by simp [execOp, o0, go_sem]) (Below.refl _ _) rfl
        case s4 =>
          intro val ρ W hE hz hd hA hx
          have o0 : ρ (.tmp 1) = .slice (some ⟨bb, bo, none⟩) bs.length bcap := hA.old 1 (by decide)
          clear hd
          exact runq_val (W' := W) (by simp [execOp, o0, go_sem]) (Below.refl _ _) rfl
        case s5 =>
          intro val ρ W hE hz hd hA hx
          have d4 : ρ (.tmp 24) = .slice (some ⟨bb, bo, none⟩) bs.length bcap := (hA.dep 4 (by decide) 24 rfl).trans (hd 4 (by decide))
          clear hd
          exact runq_val (W' := W) (by simp [d4, go_sem]) (Below.refl _ _) rfl
        case s6 =>
          intro val ρ W hE hz hd hA hx
          have d3 : ρ (.tmp 23) = .int .i64 k := (hA.dep 3 (by decide) 23 rfl).trans (hd 3 (by decide))
          have d5 : ρ (.tmp 25) = .int .i64 bs.length := (hA.dep 5 (by decide) 25 rfl).trans (hd 5 (by decide))
          clear hd
          exact runq_val (W' := W) (by simp [execOp, d3, d5, hmt, hbn3, go_sem]) (Below.refl _ _) rfl
        case s7 =>
          intro val ρ W hE hz hd hA hx
          have d2 : ρ (.tmp 22) = .slice (some ⟨bb, bo, none⟩) bs.length bcap := (hA.dep 2 (by decide) 22 rfl).trans (hd 2 (by decide))
          have d6 : ρ (.tmp 26) = .int .i64 J := (hA.dep 6 (by decide) 26 rfl).trans (hd 6 (by decide))
          clear hd
          exact runq_val (W' := W) (by simp [execOp, d2, d6, hJi, go_sem]) (Below.refl _ _) rfl
        case s8 =>
          intro val ρ W hE hz hd hA hx
          have d7 : ρ (.tmp 27) = .pointer (some ⟨bb, bo + J, none⟩) := (hA.dep 7 (by decide) 27 rfl).trans (hd 7 (by decide))
          have f_c0 := cell_below hE (by simp only; omega) c0
          clear hd
          exact runq_val (W' := W) (by simp [execOp, d7, f_c0, go_sem]) (Below.refl _ _) rfl
        case s9 =>
          intro val ρ W hE hz hd hA hx
          have d8 : ρ (.tmp 28) = .int .u8 x := (hA.dep 8 (by decide) 28 rfl).trans (hd 8 (by decide))
          clear hd
          exact runq_val (W' := W) (by simp [execOp, d8, hw1, go_sem]) (Below.refl _ _) rfl
        case s10 =>
          intro val ρ W hE hz hd hA hx
          have o0 : ρ (.tmp 2) = .pointer (some ⟨w.heap.size, 0, none⟩) := hA.old 2 (by decide)
          clear hd
          exact runq_val (W' := W) (by simp [execOp, o0, go_sem]) (Below.refl _ _) rfl
        case s11 =>
          intro val ρ W hE hz hd hA hx
          have d10 : ρ (.tmp 30) = .pointer (some ⟨w.heap.size, 0, none⟩) := (hA.dep 10 (by decide) 30 rfl).trans (hd 10 (by decide))
          have f_k1 := cell_below hE (by simp only; omega) k1
          clear hd
          exact runq_val (W' := W) (by simp [execOp, d10, f_k1, go_sem]) (Below.refl _ _) rfl
        case s12 =>
          intro val ρ W hE hz hd hA hx
          have o0 : ρ (.tmp 6) = .int .i64 k := hA.old 6 (by decide)
          clear hd
          exact runq_val (W' := W) (by simp [execOp, o0, go_sem]) (Below.refl _ _) rfl
        case s13 =>
          intro val ρ W hE hz hd hA hx
          have d11 : ρ (.tmp 31) = .slice (some ⟨kb, ko, none⟩) ks.length cap := (hA.dep 11 (by decide) 31 rfl).trans (hd 11 (by decide))
          have d12 : ρ (.tmp 32) = .int .i64 k := (hA.dep 12 (by decide) 32 rfl).trans (hd 12 (by decide))
          clear hd
          exact runq_val (W' := W) (by simp [execOp, d11, d12, hki, go_sem]) (Below.refl _ _) rfl
        case s14 =>
          intro val ρ W hE hz hd hA hx
          have d13 : ρ (.tmp 33) = .pointer (some ⟨kb, ko + k, none⟩) := (hA.dep 13 (by decide) 33 rfl).trans (hd 13 (by decide))
          have f_d0 := cell_below hE (by simp only; omega) d0
          clear hd
          exact runq_val (W' := W) (by simp [execOp, d13, f_d0, go_sem]) (Below.refl _ _) rfl
        case s15 =>
          intro val ρ W hE hz hd hA hx
          have d14 : ρ (.tmp 34) = .int .i64 m := (hA.dep 14 (by decide) 34 rfl).trans (hd 14 (by decide))
          clear hd
          exact runq_val (W' := W) (by simp [execOp, hA.const, d14, hw2, go_sem]) (Below.refl _ _) rfl
        case s16 =>
          intro val ρ W hE hz hd hA hx
          have d9 : ρ (.tmp 29) = .int .i64 x := (hA.dep 9 (by decide) 29 rfl).trans (hd 9 (by decide))
          have d15 : ρ (.tmp 35) = .int .i64 (m + 1) := (hA.dep 15 (by decide) 35 rfl).trans (hd 15 (by decide))
          clear hd
          exact runq_val (W' := W) (by simp [execOp, d9, d15, hyt, hmn, go_sem]) (Below.refl _ _) rfl
        case s17 =>
          intro val ρ W hE hz hd hA hx
          have d0 : ρ (.tmp 20) = .slice (some ⟨g, 0, none⟩) ks.length ks.length := (hA.dep 0 (by decide) 20 rfl).trans (hd 0 (by decide))
          have d1 : ρ (.tmp 21) = .int .i64 k := (hA.dep 1 (by decide) 21 rfl).trans (hd 1 (by decide))
          clear hd
          exact runq_val (W' := W) (by simp [execOp, d0, d1, hki, go_sem]) (Below.refl _ _) rfl
        case send =>
          intro val WW hE hzz hv
          obtain ⟨-, -, -, -, -, -, -, -, -, -, -, -, -, -, -, -, q16, q17, -⟩ := hv
          have q16' : val 16 = .int .i64 y := q16
          have q17' : val 17 = .pointer (some ⟨g, k, none⟩) := q17
          have hEZ : Ext Z WW := hE
          have HN9 := Lib.hid (HNUM.out.of_heap (hEZ.block _ hgz))
          have HE9 := Lib.hid (HE.out.trans' hEZ)
          have g9 := HN9.out.cell k hlt
          have f9 := HN9.out.free k
          have hz9 := HN9.out.lt
          simp only [putD, q16', q17']
          go_frame
          clear q16 q16' q17 q17' hE hzz hEZ c0 d0 k1 g0 f0
          go_wp2_with fail
          go_roundw
          case rel =>
            refine ⟨k + 1, _, by omega, by go_num, HE9.out.setCell (by simp only; omega) _, HN9.out.set k y, fun j hj => ?_⟩
            by_cases e : j = k
            · subst e
              simp only [if_true]
              rw [← HM.out]
              omega
            · simp only [e, if_false]
              exact HF.out j hj
          case measure => simp [intOf]; omega
      · have hb0' : bs.length = 0 := by omega
        have hbi : ¬ ((0 : Int) < (bs.length : Int)) := by omega
        obtain rfl : bs = [] := List.eq_nil_of_length_eq_zero hb0'
        clear hf hnum hE hb0 hb0' hbi
        go_wp2_with fail
        go_ret
        obtain ⟨s, q1, q2⟩ := HFIN.out
        exact ⟨_, s, rfl, HW.out.trans' HE.out, q1, q2⟩
    · have hki : ¬ ((k : Int) < (ks.length : Int)) := by omega
      clear hf hnum hE
      go_wp2_with fail
      go_ret
      obtain ⟨s, q1, q2⟩ := HFIN.out
      exact ⟨_, s, rfl, HW.out.trans' HE.out, q1, q2⟩
end Go.Proofs.Ytndgaklcnhoddaa
