/-
  The walks of the reference: CheckHall.
  The walks of the reference: IsWindow, IsRow.
  The walk of the reference's Stated.
  The walks of the reference's All.
  The walks of the reference's Visited and Pulled.
  The walks of the reference's Empty and Played, and of Pulled by all windows.
  The walks of the reference's Least, below and CheckDoom.
  The walk of the reference's CheckCircle.
  The walks of the statements' small functions: Hall, step, Ints.
-/
import Derived.Test.YtndgaklcnhoddaaWf
import Derived.Test.YtndgaklcnhoddaaGm
import Derived.Test.YtndgaklcnhoddaaWd
import Derived.Test.YtndgaklcnhoddaaWb
import Derived.Test.YtndgaklcnhoddaaWa
namespace Go.Proofs.Ytndgaklcnhoddaa
open Go.RowKit Go.Shelf
def badK (k : Int) : Bool := decide (k < 1) || decide (12 < k)
theorem tchk_eq (ks : List Int) : tchk ks = if ks.length < 1 ∨ 5 < ks.length then 6 else if ks.any badK = true then 3 else if 1000 < prodK ks then 2 else 0 := rfl
theorem preK_bd {ks : List Int} (h5 : ks.length ≤ 5) (hb : ∀ x ∈ ks, badK x = false) : ∀ j, j ≤ ks.length → 1 ≤ preK ks j ∧ preK ks j ≤ 13 ^ j
  | 0, _ => by simp [preK, prodK]
  | j + 1, h => by
    obtain ⟨a, b⟩ := preK_bd h5 hb j (by omega)
    rw [preK_succ (by omega)]
    have hx := hb ks[j] (List.getElem_mem _)
    rw [gt_get (show j < ks.length by omega)] at hx
    unfold badK at hx
    simp at hx
    have e : (13 : Int) ^ (j + 1) = 13 ^ j * 13 := Int.pow_succ 13 j
    have h1 := Int.mul_le_mul_of_nonneg_left (show gt ks j + 1 ≤ 13 by omega) (show 0 ≤ preK ks j by omega)
    have h2 := Int.mul_le_mul_of_nonneg_right b (show (0 : Int) ≤ 13 by omega)
    have h3 := Int.mul_le_mul_of_nonneg_left (show 1 ≤ gt ks j + 1 by omega) (show 0 ≤ preK ks j by omega)
    omega
theorem p13 : ∀ j : Nat, j ≤ 5 → (13 : Int) ^ j ≤ 371293
  | 0, _ => by decide
  | 1, _ => by decide
  | 2, _ => by decide
  | 3, _ => by decide
  | 4, _ => by decide
  | 5, _ => by decide
set_option maxRecDepth 100000 in
set_option maxHeartbeats 1000000 in
theorem checkHallR_any (ks : List Int) (kv : Value) (w : World) (hv : IsInts w .i64 kv ks) :
    Calls Try.prog 23 #[.agg #[kv]] w fun e W => e = .returned (.int .i64 (tchk ks)) ∧ Ext w W := by
  obtain ⟨sa, cap, rfl, h1, h2, -⟩ := hv.spec
  have HV := Lib.hid hv
  clear hv
  go_enter Try.func23, Try.ntmps23
  go_upto_region 1 with (fail)
  obtain ⟨W0, hW0⟩ : ∃ W0, W0 = w.alloc (.cells #[.slice sa ks.length cap] 24) := ⟨_, rfl⟩
  have hE : Ext w W0 := by rw [hW0]; exact (by repeat (first | exact Below.refl _ _ | refine Ext.al ?_ _ | refine Ext.dr ?_ | refine Ext.drN ?_ _ | refine Ext.gr ?_ _ | refine Ext.set ?_ (by simp) _ | (refine Ext.trans' ?_ (by assumption))))
  have k0 : W0.cell? ⟨w.heap.size, 0, none⟩ = some (.slice sa ks.length cap) := by rw [hW0]; simp [go_sem]
  have hz : w.heap.size < W0.heap.size := World.block_lt_of_cell? _ _ k0
  have HS := Lib.hid (HV.out.ext hE)
  have HW := Lib.hid hE
  rw [← hW0]
  clear hW0 HV
  clear hE
  by_cases hn1 : ks.length < 1
  · have d1 : decide ((ks.length : Int) < 1) = true := decide_eq_true (by omega)
    have HF := Lib.hid (show tchk ks = 6 by rw [tchk_eq, if_pos (.inl hn1)])
    clear hn1
    go_wp2_with fail
    go_ret
    exact ⟨ret_int HF.out.symm, HW.out⟩
  have d1 : decide ((ks.length : Int) < 1) = false := decide_eq_false (by omega)
  by_cases hn5 : 5 < ks.length
  · have d2 : decide ((5 : Int) < (ks.length : Int)) = true := decide_eq_true (by omega)
    have HF := Lib.hid (show tchk ks = 6 by rw [tchk_eq, if_pos (.inr hn5)])
    clear hn1 hn5
    go_wp2_with fail
    go_ret
    exact ⟨ret_int HF.out.symm, HW.out⟩
  have d2 : decide ((5 : Int) < (ks.length : Int)) = false := decide_eq_false (by omega)
  go_wp2_with fail
  go_loopw [4] (fun i W => ∃ k : Nat, k ≤ ks.length ∧ i = .int .i64 k ∧ (∀ x ∈ ks.take k, badK x = false) ∧ W = W0) (fun i _ => ks.length - (intOf i).toNat)
  case atStart => exact ⟨0, by omega, rfl, by simp, rfl⟩
  case round =>
    obtain ⟨k, hk, rfl, hno, rfl⟩ := hrel
    have HNO := Lib.hid hno
    clear hno
    by_cases hlt : k < ks.length
    · rcases HS.out.spec with ⟨sa', cap', e, -, -, hcc⟩
      cases e
      rcases hcc with hcc | ⟨b, off, rfl, hcc⟩
      · rw [hcc] at hlt; simp at hlt
      have c0 := hcc k hlt
      have hki : (k : Int) < (ks.length : Int) := by omega
      by_cases hb : badK ks[k] = true
      · have HF := Lib.hid (show tchk ks = 3 by rw [tchk_eq, if_neg (by omega), if_pos (List.any_eq_true.2 ⟨_, List.getElem_mem hlt, hb⟩)])
        have hb' := hb
        unfold badK at hb'
        obtain ⟨x, hx⟩ : ∃ x, x = ks[k] := ⟨_, rfl⟩
        rw [← hx] at c0 hb'
        clear hcc hb hx
        by_cases hx1 : x < 1
        · have f1 : decide (x < 1) = true := decide_eq_true hx1
          clear hb'
          go_wp2_with fail
          go_ret
          exact ⟨ret_int HF.out.symm, HW.out⟩
        · have f1 : decide (x < 1) = false := decide_eq_false hx1
          have f2 : decide (12 < x) = true := by simpa [f1] using hb'
          clear hb'
          go_wp2_with fail
          go_ret
          exact ⟨ret_int HF.out.symm, HW.out⟩
      · have hst := take_ext hlt HNO.out (by simpa using hb)
        have HST := Lib.hid hst
        unfold badK at hb
        obtain ⟨x, hx⟩ : ∃ x, x = ks[k] := ⟨_, rfl⟩
        rw [← hx] at c0 hb
        have f1 : decide (x < 1) = false := by simp at hb ⊢; omega
        have f2 : decide (12 < x) = false := by simp at hb ⊢; omega
        clear hcc hb hx hst
        go_wp2_with fail
        go_roundw
        case rel => exact ⟨k + 1, by omega, by go_num, HST.out, trivial⟩
        case measure => simp [intOf]; omega
    · have hall := take_all hlt HNO.out
      have HALL := Lib.hid hall
      have HK := Lib.hid (show k = ks.length by omega)
      clear hall
      have g0 : decide ((k : Int) < (ks.length : Int)) = false := decide_eq_false (by omega)
      go_wp2_with fail
      go_loopw [3, 5] (fun m i W => ∃ j : Nat, j ≤ ks.length ∧ i = .int .i64 j ∧ m = .int .i64 (preK ks j) ∧ W = wr) (fun _ i _ => ks.length - (intOf i).toNat)
      case atStart => exact ⟨0, by omega, rfl, rfl, rfl⟩
      case round =>
        obtain ⟨j, hj, rfl, rfl, hwr⟩ := hrel
        cases hwr
        have hb := preK_bd (ks := ks) (by omega) HALL.out j hj
        have hp := p13 j (by omega)
        by_cases hlt : j < ks.length
        · rcases HS.out.spec with ⟨sa', cap', e, -, -, hcc⟩
          cases e
          rcases hcc with hcc | ⟨b, off, rfl, hcc⟩
          · rw [hcc] at hlt; simp at hlt
          have c0 := hcc j hlt
          have hji : (j : Int) < (ks.length : Int) := by omega
          have hb2 := preK_bd (ks := ks) (by omega) HALL.out (j + 1) (by omega)
          have hp2 := p13 (j + 1) (by omega)
          have e1 := preK_succ hlt
          have hx := HALL.out ks[j] (List.getElem_mem hlt)
          unfold badK at hx
          simp only [Bool.or_eq_false_iff, decide_eq_false_iff_not] at hx
          rw [gt_get hlt] at c0 hx
          obtain ⟨x, hxx⟩ : ∃ x, x = gt ks j := ⟨_, rfl⟩
          obtain ⟨M, hM⟩ : ∃ M, M = preK ks j := ⟨_, rfl⟩
          rw [← hxx] at c0 e1 hx
          rw [← hM] at e1 hb
          rw [← hM]
          have hmb : 1 ≤ M * (x + 1) ∧ M * (x + 1) ≤ 371293 := by rw [← e1]; omega
          have hw1 : IntKind.i64.wrap (M * (x + 1)) = M * (x + 1) := IntWalk.i64_in _ (by omega)
          have E1 := Lib.hid e1
          clear hcc hxx hM e1 hb2 hp2 hp
          go_wp2_with fail
          go_roundw
          case rel => exact ⟨j + 1, by omega, by go_num, by rw [E1.out], trivial⟩
          case measure => simp [intOf]; omega
        · obtain rfl : j = ks.length := by omega
          have hpr : preK ks ks.length = prodK ks := by unfold preK; rw [List.take_length]
          rw [hpr] at hb ⊢
          have hte : tchk ks = if 1000 < prodK ks then 2 else 0 := by
            rw [tchk_eq, if_neg (by omega), if_neg]
            intro h
            obtain ⟨x, hx, h⟩ := List.any_eq_true.1 h
            rw [HALL.out x hx] at h; cases h
          obtain ⟨M, hM⟩ : ∃ M, M = prodK ks := ⟨_, rfl⟩
          rw [← hM] at hte hb ⊢
          have HTE := Lib.hid hte
          clear hte hpr hM
          by_cases hbig : 1000 < M
          · have f1 : decide (1000 < M) = true := decide_eq_true hbig
            have HF := Lib.hid (show tchk ks = 2 by rw [HTE.out, if_pos hbig])
            clear hbig
            go_wp2_with fail
            go_ret
            exact ⟨ret_int HF.out.symm, HW.out⟩
          · have f1 : decide (1000 < M) = false := decide_eq_false hbig
            have HF := Lib.hid (show tchk ks = 0 by rw [HTE.out, if_neg hbig])
            clear hbig
            go_wp2_with fail
            go_ret
            exact ⟨ret_int HF.out.symm, HW.out⟩
end Go.Proofs.Ytndgaklcnhoddaa
namespace Go.Proofs.Ytndgaklcnhoddaa
open Go.RowKit Go.Shelf
set_option maxHeartbeats 1000000 in
theorem isWindow_any (ks : List Int) (n : Int) (kv : Value) (w : World) (hv : IsInts w .i64 kv ks) :
    Calls Try.prog 51 #[.agg #[kv], .int .i64 n] w fun e W => e = .returned (.bool (inR 0 ((ks.length : Int) - 1) n)) ∧ Ext w W := by
  obtain ⟨sa, cap, rfl, h1, h2, -⟩ := hv.spec
  have HV := Lib.hid hv
  clear hv
  obtain ⟨r, hr⟩ : ∃ r, r = inR 0 ((ks.length : Int) - 1) n := ⟨_, rfl⟩
  have h3 : r = (decide (0 ≤ n) && decide (n < (ks.length : Int))) := by
    rw [hr, Bool.eq_iff_iff, inR_iff]; simp; omega
  rw [← hr]
  clear hr
  go_enter Try.func51, Try.ntmps51
  by_cases hn : 0 ≤ n
  · have d1 : decide (0 ≤ n) = true := decide_eq_true hn
    rw [d1, Bool.true_and] at h3
    have H3 := Lib.hid h3
    clear h3 hn
    go_wp2_with fail
    go_ret
    exact ⟨ret_bool H3.out.symm, (by repeat (first | exact Below.refl _ _ | refine Ext.al ?_ _ | refine Ext.dr ?_ | refine Ext.drN ?_ _ | refine Ext.gr ?_ _ | refine Ext.set ?_ (by simp) _ | (refine Ext.trans' ?_ (by assumption))))⟩
  · have d1 : decide (0 ≤ n) = false := decide_eq_false hn
    rw [d1, Bool.false_and] at h3
    have H3 := Lib.hid h3
    clear h3 hn
    go_wp2_with fail
    go_ret
    exact ⟨ret_bool H3.out.symm, (by repeat (first | exact Below.refl _ _ | refine Ext.al ?_ _ | refine Ext.dr ?_ | refine Ext.drN ?_ _ | refine Ext.gr ?_ _ | refine Ext.set ?_ (by simp) _ | (refine Ext.trans' ?_ (by assumption))))⟩
set_option maxRecDepth 100000 in
set_option maxHeartbeats 1000000 in
theorem isRow_any (ks row : List Int) (kv rv : Value) (w : World) (hv : IsInts w .i64 kv ks) (hr : IsInts w .i64 rv row) :
    Calls Try.prog 59 #[.agg #[kv], rv] w fun e W => e = .returned (.int .i64 (rowErr ks row)) ∧ Ext w W := by
  obtain ⟨sa, cap, rfl, h1, h2, -⟩ := hv.spec
  obtain ⟨ra, rcap, rfl, h3, h4, -⟩ := hr.spec
  have HV := Lib.hid hv
  have HR0 := Lib.hid hr
  clear hv hr
  go_enter Try.func59, Try.ntmps59
  go_upto_region 1 with (fail)
  obtain ⟨W0, hW0⟩ : ∃ W0, W0 = w.alloc (.cells #[.slice sa ks.length cap] 24) := ⟨_, rfl⟩
  have hE : Ext w W0 := by rw [hW0]; exact (by repeat (first | exact Below.refl _ _ | refine Ext.al ?_ _ | refine Ext.dr ?_ | refine Ext.drN ?_ _ | refine Ext.gr ?_ _ | refine Ext.set ?_ (by simp) _ | (refine Ext.trans' ?_ (by assumption))))
  have k0 : W0.cell? ⟨w.heap.size, 0, none⟩ = some (.slice sa ks.length cap) := by rw [hW0]; simp [go_sem]
  have hz : w.heap.size < W0.heap.size := World.block_lt_of_cell? _ _ k0
  have HS := Lib.hid (HV.out.ext hE)
  have HW := Lib.hid hE
  rw [← hW0]
  clear hW0 HV
  have HR := Lib.hid (HR0.out.ext hE)
  clear hE HR0
  by_cases hl : 1000 < row.length
  · have hl1 : decide ((1000 : Int) < (row.length : Int)) = true := decide_eq_true (by omega)
    go_wp2_with fail
    go_ret
    exact ⟨ret_int (by unfold rowErr; rw [if_pos hl]), HW.out⟩
  have hl1 : decide ((1000 : Int) < (row.length : Int)) = false := decide_eq_false (by omega)
  go_wp2_with fail
  go_loopw [5] (fun i W => ∃ k : Nat, k ≤ row.length ∧ i = .int .i64 k ∧ (∀ x ∈ row.take k, (!inR 0 ((ks.length : Int) - 1) x) = false) ∧ Ext W0 W) (fun i _ => row.length - (intOf i).toNat)
  case atStart => exact ⟨0, by omega, rfl, by simp, Below.refl _ _⟩
  case round =>
    obtain ⟨k, hk, rfl, hno, hE⟩ := hrel
    have HNO := Lib.hid hno
    clear hno
    by_cases hlt : k < row.length
    · rcases (HR.out.ext hE).spec with ⟨ra', rcap', e, -, -, hcc⟩
      cases e
      rcases hcc with hcc | ⟨b, off, rfl, hcc⟩
      · rw [hcc] at hlt; simp at hlt
      have c0 := hcc k hlt
      have hki : (k : Int) < (row.length : Int) := by omega
      have k0' := cell_ext hE k0
      have hzr := World.block_lt_of_cell? _ _ k0'
      have hzb := World.block_lt_of_cell? _ _ c0
      simp only at hzr hzb
      have cw := fun W hs => isWindow_any ks row[k] (.slice sa ks.length cap) W hs
      have htk := fun h => take_ext (p := fun x => !inR 0 ((ks.length : Int) - 1) x) hlt HNO.out h
      have hbad : inR 0 ((ks.length : Int) - 1) row[k] = false → rowErr ks row = 2 := fun h => by
        unfold rowErr
        rw [if_neg hl, if_neg]
        intro hh
        have := List.all_eq_true.1 hh row[k] (List.getElem_mem hlt)
        rw [h] at this; cases this
      obtain ⟨ob, hob⟩ : ∃ ob, ob = inR 0 ((ks.length : Int) - 1) row[k] := ⟨_, rfl⟩
      simp only [← hob] at cw htk hbad
      obtain ⟨x, hx⟩ : ∃ x, x = row[k] := ⟨_, rfl⟩
      rw [← hx] at c0 cw
      have CW := Lib.hid cw
      have HTK := Lib.hid htk
      have HBAD := Lib.hid hbad
      have HSW := Lib.hid (HS.out.ext hE)
      have HE := Lib.hid hE
      clear hcc cw htk hbad hob hx hE
      go_upto_region 6 with (fail)
      refine wp_region_rove (wr.heap.size) (Nat.le_refl _)
        [sqV (.agg #[.slice sa ks.length cap]),
         sqV (.slice (some ⟨b, off, none⟩) row.length rcap),
         sqV (.int .i64 k),
         sqV (.pointer (some ⟨b, off + k, none⟩)),
         sqV (.int .i64 x),
         sqV (.bool ob),
         sqV (.bool (!ob))]
        [true, true, true, true, true, true, true] [false, false, false, false, false, false, false] [true, true, true, true, true, true, true] [true, true, true, true, true, true, true]
        (by kernel_rfl) (by kernel_rfl) (by decide +kernel) (by decide +kernel) (by decide +kernel) rfl ⟨rfl, rfl⟩ ⟨?s0, ?s1, ?s2, ?s3, ?s4, ?s5, ?s6, trivial⟩ [some 15, some 16, some 17, some 18, some 19, some 20, some 21] rfl rfl ?send
      case s0 =>
        intro val ρ W hE hz hd hA hx
        have o0 : ρ (.tmp 2) = .pointer (some ⟨w.heap.size, 0, none⟩) := hA.old 2 (by decide)
        have f_k0' := cell_below hE (by simp only; omega) k0'
        clear hd
        exact runq_val (W' := W) (by simp [execOp, o0, f_k0', go_sem]) (Below.refl _ _) rfl
      case s1 =>
        intro val ρ W hE hz hd hA hx
        have o0 : ρ (.tmp 1) = .slice (some ⟨b, off, none⟩) row.length rcap := hA.old 1 (by decide)
        clear hd
        exact runq_val (W' := W) (by simp [execOp, o0, go_sem]) (Below.refl _ _) rfl
      case s2 =>
        intro val ρ W hE hz hd hA hx
        have o0 : ρ (.tmp 5) = .int .i64 k := hA.old 5 (by decide)
        clear hd
        exact runq_val (W' := W) (by simp [execOp, o0, go_sem]) (Below.refl _ _) rfl
      case s3 =>
        intro val ρ W hE hz hd hA hx
        have d1 : ρ (.tmp 16) = .slice (some ⟨b, off, none⟩) row.length rcap := (hA.dep 1 (by decide) 16 rfl).trans (hd 1 (by decide))
        have d2 : ρ (.tmp 17) = .int .i64 k := (hA.dep 2 (by decide) 17 rfl).trans (hd 2 (by decide))
        clear hd
        exact runq_val (W' := W) (by simp [execOp, d1, d2, hki, go_sem]) (Below.refl _ _) rfl
      case s4 =>
        intro val ρ W hE hz hd hA hx
        have d3 : ρ (.tmp 18) = .pointer (some ⟨b, off + k, none⟩) := (hA.dep 3 (by decide) 18 rfl).trans (hd 3 (by decide))
        have f_c0 := cell_below hE (by simp only; omega) c0
        clear hd
        exact runq_val (W' := W) (by simp [execOp, d3, f_c0, go_sem]) (Below.refl _ _) rfl
      case s5 =>
        intro val ρ W hE hz hd hA hx
        have d0 : ρ (.tmp 15) = .agg #[.slice sa ks.length cap] := (hA.dep 0 (by decide) 15 rfl).trans (hd 0 (by decide))
        have d4 : ρ (.tmp 19) = .int .i64 x := (hA.dep 4 (by decide) 19 rfl).trans (hd 4 (by decide))
        clear hd
        refine runq_call 51 _ _ rfl #[.agg #[.slice sa ks.length cap], .int .i64 x] (hA.func _) (by simp [d0, d4]) (fun args W => Try.call51 args W) ((CW.out W (HSW.out.ext hE)).mono ?_)
        rintro e w' ⟨rfl, hb⟩
        exact ⟨_, rfl, hb, rfl⟩
      case s6 =>
        intro val ρ W hE hz hd hA hx
        have d5 : ρ (.tmp 20) = .bool ob := (hA.dep 5 (by decide) 20 rfl).trans (hd 5 (by decide))
        clear hd
        exact runq_val (W' := W) (by simp [execOp, d5, go_sem]) (Below.refl _ _) rfl
      case send =>
        intro val WW hE hzz hv
        obtain ⟨r0, r1, r2, r3, r4, r5, r6, -⟩ := hv
        have q0 : val 0 = .agg #[.slice sa ks.length cap] := r0
        have q1 : val 1 = .slice (some ⟨b, off, none⟩) row.length rcap := r1
        have q2 : val 2 = .int .i64 k := r2
        have q3 : val 3 = .pointer (some ⟨b, off + k, none⟩) := r3
        have q4 : val 4 = .int .i64 x := r4
        have q5 : val 5 = .bool ob := r5
        have q6 : val 6 = .bool (!ob) := r6
        clear r0 r1 r2 r3 r4 r5 r6
        obtain ⟨g99, rfl⟩ := grow_of hE
        clear hE hzz
        simp only [putD, q0, q1, q2, q3, q4, q5, q6]
        go_frame
        clear q0 q1 q2 q3 q4 q5 q6
        cases ob
        · have HF := Lib.hid (HBAD.out rfl)
          go_wp2_with fail
          go_ret
          exact ⟨ret_int HF.out.symm, HW.out.trans' (HE.out.trans' (grow_below wr g99))⟩
        · go_wp2_with fail
          go_roundw
          case rel => exact ⟨k + 1, by omega, by go_num, HTK.out rfl, HE.out.trans' (grow_below wr g99)⟩
          case measure => simp [intOf]; omega
    · have hall := take_all hlt HNO.out
      have hfin : rowErr ks row = 0 := by
        unfold rowErr
        rw [if_neg hl, if_pos]
        exact List.all_eq_true.2 fun x hx => by simpa using hall x hx
      have HF := Lib.hid hfin
      have HE := Lib.hid hE
      have g0 : decide ((k : Int) < (row.length : Int)) = false := decide_eq_false (by omega)
      clear hall hfin hE
      go_wp2_with fail
      go_ret
      exact ⟨ret_int HF.out.symm, HW.out.trans' HE.out⟩
end Go.Proofs.Ytndgaklcnhoddaa
namespace Go.Proofs.Ytndgaklcnhoddaa
open Go.RowKit Go.Shelf
set_option maxRecDepth 100000 in
set_option maxHeartbeats 1000000 in
theorem statedR_any (ks l : List Int) (kv lv : Value) (w : World) (hv : IsInts w .i64 kv ks) (hl : IsInts w .i64 lv l) :
    Calls Try.prog 52 #[.agg #[kv], lv] w fun e W => e = .returned (.int .i64 (stErr ks l)) ∧ Ext w W := by
  obtain ⟨sa, cap, rfl, h1, h2, -⟩ := hv.spec
  obtain ⟨ra, rcap, rfl, h3, h4, -⟩ := hl.spec
  have HV := Lib.hid hv
  have HR0 := Lib.hid hl
  clear hv hl
  go_enter Try.func52, Try.ntmps52
  go_upto_region 1 with (fail)
  obtain ⟨W0, hW0⟩ : ∃ W0, W0 = w.alloc (.cells #[.slice sa ks.length cap] 24) := ⟨_, rfl⟩
  have hE : Ext w W0 := by rw [hW0]; exact (by repeat (first | exact Below.refl _ _ | refine Ext.al ?_ _ | refine Ext.dr ?_ | refine Ext.drN ?_ _ | refine Ext.gr ?_ _ | refine Ext.set ?_ (by simp) _ | (refine Ext.trans' ?_ (by assumption))))
  have k0 : W0.cell? ⟨w.heap.size, 0, none⟩ = some (.slice sa ks.length cap) := by rw [hW0]; simp [go_sem]
  have hz : w.heap.size < W0.heap.size := World.block_lt_of_cell? _ _ k0
  have HS := Lib.hid (HV.out.ext hE)
  have HW := Lib.hid hE
  rw [← hW0]
  clear hW0 HV
  have HR := Lib.hid (HR0.out.ext hE)
  clear hE HR0



  go_wp2_with fail
  refine callW (W0 := W0) (g := ⟨W0, Below.refl _ _⟩) (by exact (by repeat (first | exact Below.refl _ _ | refine Ext.al ?_ _ | refine Ext.dr ?_ | refine Ext.drN ?_ _ | refine Ext.gr ?_ _ | refine Ext.set ?_ (by simp) _ | (refine Ext.trans' ?_ (by assumption))))) (checkHallR_any ks _ _ (HS.out.ext (by exact (by repeat (first | exact Below.refl _ _ | refine Ext.al ?_ _ | refine Ext.dr ?_ | refine Ext.drN ?_ _ | refine Ext.gr ?_ _ | refine Ext.set ?_ (by simp) _ | (refine Ext.trans' ?_ (by assumption))))))) fun g1 hgr => ?_
  clear hgr
  by_cases hc : tchk ks = 0
  rotate_left
  · have e1 : (tchk ks == 0) = false := by simpa using hc
    have e2 : (tchk ks != 0) = true := by simpa using hc
    have HC := Lib.hid hc
    clear hc

    go_wp2_with fail
    refine callW (W0 := W0) (g := g1) (by exact (by repeat (first | exact Below.refl _ _ | refine Ext.al ?_ _ | refine Ext.dr ?_ | refine Ext.drN ?_ _ | refine Ext.gr ?_ _ | refine Ext.set ?_ (by simp) _ | (refine Ext.trans' ?_ (by assumption))))) (checkHallR_any ks _ _ (HS.out.ext (by exact (by repeat (first | exact Below.refl _ _ | refine Ext.al ?_ _ | refine Ext.dr ?_ | refine Ext.drN ?_ _ | refine Ext.gr ?_ _ | refine Ext.set ?_ (by simp) _ | (refine Ext.trans' ?_ (by assumption))))))) fun g2 hgr => ?_
    clear hgr
    go_wp2_with fail
    go_ret
    exact ⟨ret_int (by unfold stErr; rw [if_pos HC.out]), HW.out.trans' (grow_below W0 _)⟩

  have e2 : (tchk ks != 0) = false := by simpa using hc
  have HC := Lib.hid hc
  clear hc
  by_cases hn : l.length = ks.length
  rotate_left
  · have hn1 : ((l.length : Int) == (ks.length : Int)) = false := by simp; omega
    have hn2 : ((l.length : Int) != (ks.length : Int)) = true := by simp; omega
    have HF := Lib.hid (show stErr ks l = 15 by unfold stErr; rw [if_neg (fun h => h HC.out), if_pos hn])
    clear hn
    go_wp2_with fail
    go_ret
    exact ⟨ret_int HF.out.symm, HW.out.trans' (grow_below W0 _)⟩
  have hn1 : ((l.length : Int) == (ks.length : Int)) = true := by simp; omega
  have hn2 : ((l.length : Int) != (ks.length : Int)) = false := by simp; omega
  have HN := Lib.hid hn
  clear hn
  go_wp2_with fail
  go_loopw [5] (fun i W => ∃ k : Nat, k ≤ l.length ∧ i = .int .i64 k ∧ (∀ j, j < k → inR 0 (gt ks j) (gt l j) = true) ∧ Ext W0 W) (fun i _ => l.length - (intOf i).toNat)
  case atStart => exact ⟨0, by omega, rfl, by omega, grow_below W0 _⟩
  case round =>
    obtain ⟨k, hk, rfl, hno, hE⟩ := hrel
    have HNO := Lib.hid hno
    have k0' := cell_ext hE k0
    have hzr := World.block_lt_of_cell? _ _ k0'
    simp only at hzr
    clear hno
    by_cases hlt : k < l.length
    · have hkl : k < ks.length := by have := HN.out; omega
      rcases (HS.out.ext hE).spec with ⟨sa', cap', e, -, -, hcc⟩
      cases e
      rcases hcc with hcc | ⟨b, off, rfl, hcc⟩
      · rw [hcc] at hkl; simp at hkl
      rcases (HR.out.ext hE).spec with ⟨la', lcap', e, -, -, hdd⟩
      cases e
      rcases hdd with hdd | ⟨lb, loff, rfl, hdd⟩
      · rw [hdd] at hlt; simp at hlt
      have c0 := hcc k hkl
      have d0 := hdd k hlt
      rw [gt_get hkl] at c0
      rw [gt_get hlt] at d0
      have hki : (k : Int) < (ks.length : Int) := by omega
      have hki2 : (k : Int) < (l.length : Int) := by omega
      have hbad : inR 0 (gt ks k) (gt l k) = false → stErr ks l = 3 := fun h => by
        unfold stErr
        rw [if_neg (fun h => h HC.out), if_neg (fun h => h HN.out), if_neg]
        intro hh
        have := (isSt_all HN.out).1 hh k hlt
        rw [h] at this; cases this
      have hgood : inR 0 (gt ks k) (gt l k) = true → ∀ j, j < k + 1 → inR 0 (gt ks j) (gt l j) = true := fun h j hj => by
        by_cases e : j = k
        · subst e; exact h
        · exact HNO.out j (by omega)
      obtain ⟨x, hx⟩ : ∃ x, x = gt l k := ⟨_, rfl⟩
      obtain ⟨m, hm⟩ : ∃ m, m = gt ks k := ⟨_, rfl⟩
      rw [← hm, ← hx] at hbad
      rw [← hm, ← hx] at hgood
      rw [← hm] at c0
      rw [← hx] at d0
      have HBAD := Lib.hid hbad
      have HGOOD := Lib.hid hgood
      have HE := Lib.hid hE
      clear hcc hdd hbad hgood hx hm hE
      by_cases hx0 : x < 0
      · have f1 : decide (x < 0) = true := decide_eq_true hx0
        have HF := Lib.hid (HBAD.out (by cases e : inR 0 m x with | false => rfl | true => have := inR_iff.1 e; omega))
        clear hx0
        go_upto_region 8 with (fail)
        go_quiet (fail)
        go_wp2_with fail
        go_ret
        exact ⟨ret_int HF.out.symm, HW.out.trans' (HE.out.drN _)⟩
      have f1 : decide (x < 0) = false := decide_eq_false hx0
      by_cases hxm : m < x
      · have f2 : decide (m < x) = true := decide_eq_true hxm
        have HF := Lib.hid (HBAD.out (by cases e : inR 0 m x with | false => rfl | true => have := inR_iff.1 e; omega))
        clear hx0 hxm
        go_upto_region 8 with (fail)
        go_quiet (fail)
        go_wp2_with fail
        go_ret
        exact ⟨ret_int HF.out.symm, HW.out.trans' (HE.out.drN _)⟩
      have f2 : decide (m < x) = false := decide_eq_false hxm
      have HG := Lib.hid (HGOOD.out (inR_iff.2 (by omega)))
      clear hx0 hxm
      go_upto_region 8 with (fail)
      go_quiet (fail)
      go_wp2_with fail
      go_roundw
      case rel => exact ⟨k + 1, by omega, by go_num, HG.out, HE.out.drN _⟩
      case measure => simp [intOf]; omega
    · have HF := Lib.hid (show stErr ks l = 0 by
        unfold stErr
        rw [if_neg (fun h => h HC.out), if_neg (fun h => h HN.out), if_pos ((isSt_all HN.out).2 fun i hi => HNO.out i (by omega))])
      have HE := Lib.hid hE
      have g0 : decide ((k : Int) < (l.length : Int)) = false := decide_eq_false (by omega)
      clear hE
      go_wp2_with fail
      go_ret
      exact ⟨ret_int HF.out.symm, HW.out.trans' HE.out⟩
end Go.Proofs.Ytndgaklcnhoddaa
namespace Go.Proofs.Ytndgaklcnhoddaa
open Go.RowKit Go.Shelf
def upL (n : Nat) : List Int := (List.range n).map fun (i : Nat) => (i : Int)
set_option maxRecDepth 100000 in
set_option maxHeartbeats 1000000 in
theorem allR_any (ks : List Int) (kv : Value) (w : World) (hv : IsInts w .i64 kv ks) (h5 : ks.length ≤ 1000) :
    Calls Try.prog 56 #[.agg #[kv]] w fun e W => ∃ v, e = .returned v ∧ Ext w W ∧ IsInts W .i64 v (upL ks.length) := by
  obtain ⟨sa, cap, rfl, h1, h2, -⟩ := hv.spec
  have HV := Lib.hid hv
  clear hv
  go_enter Try.func56, Try.ntmps56
  go_upto_region 1 with (fail)
  obtain ⟨W0, hW0⟩ : ∃ W0, W0 = w.alloc (.cells #[.slice sa ks.length cap] 24) := ⟨_, rfl⟩
  have hE : Ext w W0 := by rw [hW0]; exact (by repeat (first | exact Below.refl _ _ | refine Ext.al ?_ _ | refine Ext.dr ?_ | refine Ext.drN ?_ _ | refine Ext.gr ?_ _ | refine Ext.set ?_ (by simp) _ | (refine Ext.trans' ?_ (by assumption))))
  have k0 : W0.cell? ⟨w.heap.size, 0, none⟩ = some (.slice sa ks.length cap) := by rw [hW0]; simp [go_sem]
  have hz : w.heap.size < W0.heap.size := World.block_lt_of_cell? _ _ k0
  have HS := Lib.hid (HV.out.ext hE)
  have HW := Lib.hid hE
  rw [← hW0]
  clear hW0 HV
  clear hE
  go_wp2_with fail
  go_loopw [3, 4] (fun a i W => ∃ k : Nat, k ≤ ks.length ∧ i = .int .i64 k ∧ Ext W0 W ∧ Owns W W0.heap.size 3 1 a ((upL k).map iRow)) (fun _ i _ => ks.length - (intOf i).toNat)
  case atStart => exact ⟨0, by omega, rfl, Below.refl _ _, Owns.nil _ _ _ _⟩
  case round =>
    obtain ⟨k, hk, rfl, hE, hown⟩ := hrel
    obtain ⟨oa, on, oc, rfl⟩ := hown.isSlice
    have k0' := cell_ext hE k0
    have hzr := World.block_lt_of_cell? _ _ k0'
    have hsz := hE.size
    simp only at hzr
    have HO := Lib.hid hown
    have HE := Lib.hid hE
    clear hE hown
    by_cases hlt : k < ks.length
    · have g0 : decide ((k : Int) < (ks.length : Int)) = true := decide_eq_true (by omega)
      have hlen : (upL k).length = k := by simp [upL]
      have HLEN := Lib.hid hlen
      clear hlen
      go_wp2_with (at_builtin; refine wpOwn rfl (.tmp 12) (.tmp 14) elInt rfl W0.heap.size rfl (HO.out.ext (by exact (by repeat (first | exact Below.refl _ _ | refine Ext.al ?_ _ | refine Ext.dr ?_ | refine Ext.drN ?_ _ | refine Ext.gr ?_ _ | refine Ext.set ?_ (by simp) _ | (refine Ext.trans' ?_ (by assumption)))))) wr.heap.size 0 1 [iRow (k : Int)] rfl (by simp [iRow]) (newRow _ (iRow (k : Int)) _) (by simp [iRow, Value.oneCell']) (by rw [List.length_map, HLEN.out]; simp; omega) (by simp; omega) ?_)
      intro v' w' hown' hbel
      obtain ⟨va, vn, vc, rfl⟩ := hown'.isSlice
      have HO2 := Lib.hid hown'
      have HB2 := Lib.hid hbel
      clear hown' hbel
      go_wp2_with fail
      go_roundw
      case rel =>
        refine ⟨k + 1, by omega, by go_num, (show Ext W0 _ from HE.out.trans' (by repeat (first | exact Below.refl _ _ | refine Ext.al ?_ _ | refine Ext.dr ?_ | refine Ext.drN ?_ _ | refine Ext.gr ?_ _ | refine Ext.set ?_ (by simp) _ | (refine Ext.trans' ?_ (by assumption))))).trans HB2.out, ?_⟩
        have e : upL (k + 1) = upL k ++ [(k : Int)] := by unfold upL; rw [List.range_succ, List.map_append]; rfl
        rw [e, List.map_append]
        exact HO2.out
      case measure => simp [intOf]; omega
    · have g0 : decide ((k : Int) < (ks.length : Int)) = false := decide_eq_false (by omega)
      have HK := Lib.hid (show k = ks.length by omega)
      go_wp2_with fail
      go_ret
      exact ⟨_, rfl, HW.out.trans' HE.out, by rw [← HK.out]; exact HO.out.oneInts⟩
end Go.Proofs.Ytndgaklcnhoddaa
namespace Go.Proofs.Ytndgaklcnhoddaa
open Go.RowKit Go.Shelf
/-- a slice of numbers that a call has made, with at least one of them -/
theorem Owns.cellsN {W : World} {B : Nat} {v : Value} {l : List Int} (h : Owns W B 3 1 v (l.map iRow)) (hne : 0 < l.length) : ∃ g cap, v = .slice (some ⟨g, 0, none⟩) l.length cap ∧ l.length ≤ cap ∧ cap ≤ 9223372036854775807 ∧ B ≤ g ∧ NumB W g l.length (gt l) := by
  obtain ⟨sa, cap, rfl, h1, h2, hf⟩ := h.form
  rcases hf with ⟨h0, _⟩ | ⟨g, rfl, _⟩
  · have := List.map_eq_nil_iff.1 h0; rw [this] at hne; simp at hne
  · obtain ⟨hn, hc, hm, hB, hN⟩ := h.numB
    rw [hn] at hN
    exact ⟨g, cap, by rw [hn], by rw [hn] at hc; exact hc, hm, hB, hN⟩
theorem NumB.intsC {W : World} {g n cap : Nat} {c : List Int} (h : NumB W g n (gt c)) (hn : n = c.length) (h1 : n ≤ cap) (h2 : cap ≤ 9223372036854775807) : IsInts W .i64 (.slice (some ⟨g, 0, none⟩) n cap) c := by
  have := IsInts.mk (w := W) (k := .i64) (l := c) (b := g) (off := 0) (cap := cap) (by omega) h2 fun i hi => by
    rw [Nat.zero_add, h.cell i (by omega), gt_get hi]
  rwa [← hn] at this
set_option maxRecDepth 100000 in
set_option maxHeartbeats 1000000 in
theorem visitedR_any (s : List Int) (v : Nat) (sv : Value) (w : World) (hv : IsInts w .i64 sv s) (hl : v < s.length) (h5 : s.length ≤ 1000) :
    Calls Try.prog 50 #[sv, .int .i64 v] w fun e W => ∃ r, e = .returned r ∧ Ext w W ∧ IsInts W .i64 r (visit s v) := by
  obtain ⟨sa, cap, rfl, h1, h2, -⟩ := hv.spec
  have HV := Lib.hid hv
  have hvi : (v : Int) < (s.length : Int) := by omega
  clear hv
  go_enter Try.func50, Try.ntmps50
  go_wp2_with (at_builtin; refine wpNew rfl (.tmp 6) (.tmp 7) elInt rfl w.heap.size rfl (isNew _ _ _ _ (Nat.le_refl _)) rfl (s.map iRow) ints_len (HV.out.ext (by exact (by repeat (first | exact Below.refl _ _ | refine Ext.al ?_ _ | refine Ext.dr ?_ | refine Ext.drN ?_ _ | refine Ext.gr ?_ _ | refine Ext.set ?_ (by simp) _ | (refine Ext.trans' ?_ (by assumption)))))) ints_one (by simp; omega) (by simp) ?_)
  intro v' W1 hown hE1
  obtain ⟨g, gc, rfl, hg1, hg2, hgB, hN⟩ := hown.cellsN (by omega)
  have hEw : Ext w W1 := Ext.trans' (by exact (by repeat (first | exact Below.refl _ _ | refine Ext.al ?_ _ | refine Ext.dr ?_ | refine Ext.drN ?_ _ | refine Ext.gr ?_ _ | refine Ext.set ?_ (by simp) _ | (refine Ext.trans' ?_ (by assumption))))) hE1
  have c0 := hN.cell v hl
  have f0 := hN.free v
  have HN := Lib.hid hN
  have HE := Lib.hid hEw
  clear hown hE1 hN hEw
  go_wp2_with fail
  go_ret
  refine ⟨_, rfl, HE.out.setCell (by simp only; omega) _, ?_⟩
  refine NumB.intsC ((HN.out.set v 0).congr fun j hj => ?_) (by rw [visit_len]) hg1 hg2
  have := visit_at s v j
  unfold gt
  rw [this]
/-- where numbers lie, in all later worlds -/
theorem IsInts.at_all {w : World} {sa : Option Addr} {n cap : Nat} {l : List Int} (h : IsInts w .i64 (.slice sa n cap) l) (hl : 0 < l.length) :
    ∃ b off, sa = some ⟨b, off, none⟩ ∧ b < w.heap.size ∧ ∀ W, Ext w W → ∀ i, i < l.length → W.cell? ⟨b, off + i, none⟩ = some (.int .i64 (gt l i)) := by
  obtain ⟨sa', cap', e, -, -, hcc⟩ := h.spec
  cases e
  rcases hcc with hcc | ⟨b, off, rfl, hcc⟩
  · rw [hcc] at hl; simp at hl
  · have h0 := World.block_lt_of_cell? _ _ (hcc 0 hl)
    refine ⟨b, off, rfl, h0, fun W hW i hi => ?_⟩
    rw [← gt_get hi]
    exact cell_ext hW (hcc i hi)
theorem contains_take {ps : List Int} {j : Nat} (hj : j < ps.length) (x : Int) : (ps.take (j + 1)).contains x = ((ps.take j).contains x || decide (x = ps[j])) := by
  rw [List.take_succ_eq_append_getElem hj, Bool.eq_iff_iff]
  simp only [List.contains_iff_mem, List.mem_append, List.mem_singleton, Bool.or_eq_true, decide_eq_true_eq]
theorem take_not {ps : List Int} (hp : ps.Pairwise (· < ·)) {j : Nat} (hj : j < ps.length) : (ps.take j).contains ps[j] = false := by
  cases h : (ps.take j).contains ps[j] with
  | false => rfl
  | true =>
    have hm := List.contains_iff_mem.1 h
    obtain ⟨i, hi, e⟩ := List.mem_iff_getElem.1 hm
    rw [List.getElem_take] at e
    have hij : i < j := by rw [List.length_take] at hi; omega
    have := List.pairwise_iff_getElem.1 hp i j (by omega) hj hij
    omega
/-- numbers in memory that is new since a world -/
def IsFr (Y W : World) (v : Value) (l : List Int) : Prop := IsInts W .i64 v l ∧ ∀ g, v.ownBlock = some g → Y.heap.size ≤ g
theorem IsFr.ext {Y w w' : World} (e : Ext w w') {v : Value} {l : List Int} (h : IsFr Y w v l) : IsFr Y w' v l := ⟨h.1.ext e, h.2⟩
def RetPullF (ks s : List Int) (p : Nat → Bool) (w : World) (e : Ending) (W : World) : Prop := ∃ v, e = .returned (.tuple #[v, .bool (!fullP p ks s)]) ∧ Ext w W ∧ IsFr w W v (if fullP p ks s then [] else upP p s)
/-- what Pulled returns -/
def RetPullR (ks s : List Int) (p : Nat → Bool) (w : World) (e : Ending) (W : World) : Prop := ∃ v, e = .returned (.tuple #[v, .bool (!fullP p ks s)]) ∧ Ext w W ∧ IsInts W .i64 v (if fullP p ks s then [] else upP p s)
set_option maxRecDepth 100000 in
set_option maxHeartbeats 2000000 in
theorem pulledF_any (ks s ps : List Int) (kv sv pv : Value) (w : World) (hv : IsInts w .i64 kv ks) (hl : IsInts w .i64 sv s) (hp : IsInts w .i64 pv ps) (n0 : 0 < ks.length) (n5 : ks.length ≤ 5) (hlen : s.length = ks.length)
    (hsb : ∀ i, i < s.length → 0 ≤ gt s i ∧ gt s i ≤ 1000) (hpw : ps.Pairwise (· < ·)) (hpb : ∀ x ∈ ps, 0 ≤ x ∧ x < (ks.length : Int)) (hpl : ps.length ≤ 1000) :
    Calls Try.prog 49 #[.agg #[kv], sv, pv] w (RetPullF ks s (fun i => ps.contains (i : Int)) w) := by
  obtain ⟨sa, cap, rfl, h1, h2, -⟩ := hv.spec
  obtain ⟨la, lcap, rfl, h3, h4, -⟩ := hl.spec
  obtain ⟨pa, pcap, rfl, h5, h6, -⟩ := hp.spec
  have HV := Lib.hid hv
  have HL0 := Lib.hid hl
  have HP0 := Lib.hid hp
  have HSB := Lib.hid hsb
  have HPW := Lib.hid hpw
  have HPB := Lib.hid hpb
  have HLEN := Lib.hid hlen
  clear hv hl hp hsb hpw hpb
  go_enter Try.func49, Try.ntmps49
  go_upto_region 1 with (fail)
  obtain ⟨W0, hW0⟩ : ∃ W0, W0 = w.alloc (.cells #[.slice sa ks.length cap] 24) := ⟨_, rfl⟩
  have hE : Ext w W0 := by rw [hW0]; exact (by repeat (first | exact Below.refl _ _ | refine Ext.al ?_ _ | refine Ext.dr ?_ | refine Ext.drN ?_ _ | refine Ext.gr ?_ _ | refine Ext.set ?_ (by simp) _ | (refine Ext.trans' ?_ (by assumption))))
  have k0 : W0.cell? ⟨w.heap.size, 0, none⟩ = some (.slice sa ks.length cap) := by rw [hW0]; simp [go_sem]
  have hz : w.heap.size < W0.heap.size := World.block_lt_of_cell? _ _ k0
  have HS := Lib.hid (HV.out.ext hE)
  have HW := Lib.hid hE
  rw [← hW0]
  clear hW0 HV
  have HL := Lib.hid (HL0.out.ext hE)
  have HP := Lib.hid (HP0.out.ext hE)
  clear hE HL0 HP0
  go_wp2_with (at_builtin; refine wpNew rfl (.tmp 10) (.tmp 11) elInt rfl W0.heap.size rfl (isNew _ _ _ _ (Nat.le_refl _)) rfl (s.map iRow) ints_len (HL.out.ext (by exact (by repeat (first | exact Below.refl _ _ | refine Ext.al ?_ _ | refine Ext.dr ?_ | refine Ext.drN ?_ _ | refine Ext.gr ?_ _ | refine Ext.set ?_ (by simp) _ | (refine Ext.trans' ?_ (by assumption)))))) ints_one (by simp; omega) (by simp) ?_)
  intro v' W1 hown hE1
  obtain ⟨g, gc, rfl, hg1, hg2, hgB, hN⟩ := hown.cellsN (by omega)
  have hEw : Ext W0 W1 := Ext.trans' (by exact (by repeat (first | exact Below.refl _ _ | refine Ext.al ?_ _ | refine Ext.dr ?_ | refine Ext.drN ?_ _ | refine Ext.gr ?_ _ | refine Ext.set ?_ (by simp) _ | (refine Ext.trans' ?_ (by assumption))))) hE1
  have hz1 := hEw.size
  have HN := Lib.hid hN
  have HE := Lib.hid hEw
  clear hown hE1 hN hEw hlen
  go_wp2_with fail
  go_loopw [9] (fun i W => ∃ j : Nat, j ≤ ps.length ∧ i = .int .i64 j ∧ NumB W g s.length (fun i => if (ps.take j).contains (i : Int) = true then gt s i + 1 else gt s i) ∧ (∀ i : Nat, i < ks.length → (ps.take j).contains (i : Int) = true → gt s i + 1 ≤ gt ks i) ∧ Ext W0 W) (fun i _ => ps.length - (intOf i).toNat)
  case atStart => exact ⟨0, by omega, rfl, HN.out.congr fun j hj => by simp, fun i hi h => by simp at h, HE.out⟩
  case round =>
    obtain ⟨j, hj, rfl, hnum, hok, hEr⟩ := hrel
    have HNUM := Lib.hid hnum
    have HOK := Lib.hid hok
    have HER := Lib.hid hEr
    have hzr := hEr.size
    by_cases hlt : j < ps.length
    · have hji : (j : Int) < (ps.length : Int) := by omega
      obtain ⟨pb, po, rfl, hpz, HPC⟩ := HP.out.at_all (by omega)
      obtain ⟨kb, ko, rfl, hkz, HKC⟩ := HS.out.at_all n0
      have hxb := HPB.out ps[j] (List.getElem_mem hlt)
      have hnot := take_not HPW.out hlt
      have htk := fun x => contains_take hlt x
      obtain ⟨X, hX⟩ : ∃ X : Nat, ps[j] = (X : Int) := ⟨ps[j].toNat, by omega⟩
      have hXg : gt ps j = (X : Int) := by rw [← gt_get hlt, hX]
      rw [hX] at hxb hnot
      simp only [hX] at htk
      have hXs : X < s.length := by have := HLEN.out; omega
      have hXk : X < ks.length := by omega
      have hXi : (X : Int) < (s.length : Int) := by omega
      have hXi2 : (X : Int) < (ks.length : Int) := by omega
      have c0 : wr.cell? ⟨g, X, none⟩ = some (.int .i64 (gt s X)) := by rw [hnum.cell X hXs, hnot]; simp
      have f0 := hnum.free X
      have hgl := hnum.lt
      have hyb := HSB.out X hXs
      have d0 := HPC wr hEr j hlt
      rw [hXg] at d0
      have hE2 : Ext W0 (wr.setCell ⟨g, X, none⟩ (.int .i64 (gt s X + 1))) := hEr.setCell (by simp only; omega) _
      have d1 := HPC _ hE2 j hlt
      rw [hXg] at d1
      have e1 := HKC _ hE2 X hXk
      have k1 := cell_ext hE2 k0
      have c1 : (wr.setCell ⟨g, X, none⟩ (.int .i64 (gt s X + 1))).cell? ⟨g, X, none⟩ = some (.int .i64 (gt s X + 1)) := by simp [go_sem, c0]
      have hnum2 : NumB (wr.setCell ⟨g, X, none⟩ (.int .i64 (gt s X + 1))) g s.length (fun i => if (ps.take (j + 1)).contains (i : Int) = true then gt s i + 1 else gt s i) := (hnum.set X _).congr fun i hi => by
        rw [htk]
        by_cases e : i = X
        · subst e; simp
        · rw [if_neg e, decide_eq_false (by omega), Bool.or_false]
      obtain ⟨y, hy⟩ : ∃ y, y = gt s X := ⟨_, rfl⟩
      obtain ⟨m, hm⟩ : ∃ m, m = gt ks X := ⟨_, rfl⟩
      rw [← hy] at c0 c1 d1 e1 k1 hnum2 hyb hE2
      rw [← hm] at e1
      have HNUM2 := Lib.hid hnum2
      have HE2 := Lib.hid hE2
      have HTK := Lib.hid htk
      have HY := Lib.hid hy
      have HM := Lib.hid hm
      have HXM := Lib.hid (show ps.contains (X : Int) = true from List.contains_iff_mem.2 (by rw [← hX]; exact List.getElem_mem hlt))
      have hsz2 : (wr.setCell ⟨g, X, none⟩ (.int .i64 (y + 1))).heap.size = wr.heap.size := by simp [World.setCell]
      clear hnum hok hEr hxb hnot htk hX hXg hnum2 hE2 HPC HKC hy hm
      go_upto_region 6 with (fail)
      obtain ⟨Z, hZ⟩ : ∃ Z, wr.setCell ⟨g, X, none⟩ (.int .i64 (y + 1)) = Z := ⟨_, rfl⟩
      rw [hZ] at c1 d1 e1 k1 hsz2 HNUM2 HE2 ⊢
      clear hZ c0 d0 f0
      by_cases hf : y + 1 > m
      · have hfd : decide (m < y + 1) = true := decide_eq_true hf
        have HF := Lib.hid hf
        clear hf
        go_quiet (fail)
        go_wp2_with fail
        have hfull : fullP (fun i => ps.contains (i : Int)) ks s = true := by
          cases h : fullP (fun i => ps.contains (i : Int)) ks s with
          | true => rfl
          | false =>
            have := fullP_false.1 h X hXk HXM.out
            have h1 := HF.out
            rw [HY.out, HM.out] at h1
            unfold gt at h1
            omega
        refine bodyPost_ret (v := .tuple #[.slice none 0 0, .bool false]) (by simp [results, Try.results49, go_sem]) rfl ?_
        exact ⟨_, by rw [hfull]; rfl, HW.out.trans' (HE2.out.drN _), by rw [hfull]; exact ⟨IsInts.nil _ _, fun g h => by cases h⟩⟩
      · have hfd : decide (m < y + 1) = false := decide_eq_false hf
        have HF := Lib.hid (show y + 1 ≤ m by omega)
        clear hf
        go_quiet (fail)
        go_wp2_with fail
        go_roundw
        case rel =>
          refine ⟨j + 1, by omega, by go_num, HNUM2.out.of_heap rfl, fun i hi h => ?_, HE2.out.drN _⟩
          rw [HTK.out] at h
          rcases Bool.or_eq_true_iff.1 h with h | h
          · exact HOK.out i hi h
          · have e : i = X := by have := of_decide_eq_true h; omega
            subst e
            have := HF.out
            rw [HY.out, HM.out] at this; exact this
        case measure => simp [intOf]; omega
    · have hjl : j = ps.length := by omega
      have hfull : fullP (fun i => ps.contains (i : Int)) ks s = false := fullP_false.2 fun i hi h => hok i hi (by rw [hjl, List.take_length]; exact h)
      have hnum2 : NumB wr g s.length (gt (upP (fun i => ps.contains (i : Int)) s)) := hnum.congr fun i hi => by
        rw [hjl, List.take_length]
        exact (upP_at (fun i => ps.contains (i : Int)) s i hi).symm
      have HF := Lib.hid hfull
      have HN2 := Lib.hid hnum2
      clear hjl hfull hnum2 hnum hok
      go_wp2_with fail
      refine bodyPost_ret (v := .tuple #[.slice (some ⟨g, 0, none⟩) s.length gc, .bool true]) (by simp [results, Try.results49, go_sem]) rfl ?_
      exact ⟨_, by rw [HF.out]; rfl, HW.out.trans' HER.out, by rw [HF.out]; exact ⟨HN2.out.intsC (by rw [upP_len]) hg1 hg2, fun g' h => by simp only [Value.ownBlock, Option.some.injEq] at h; omega⟩⟩
theorem pulledR_any (ks s ps : List Int) (kv sv pv : Value) (w : World) (hv : IsInts w .i64 kv ks) (hl : IsInts w .i64 sv s) (hp : IsInts w .i64 pv ps) (n0 : 0 < ks.length) (n5 : ks.length ≤ 5) (hlen : s.length = ks.length)
    (hsb : ∀ i, i < s.length → 0 ≤ gt s i ∧ gt s i ≤ 1000) (hpw : ps.Pairwise (· < ·)) (hpb : ∀ x ∈ ps, 0 ≤ x ∧ x < (ks.length : Int)) (hpl : ps.length ≤ 1000) :
    Calls Try.prog 49 #[.agg #[kv], sv, pv] w (RetPullR ks s (fun i => ps.contains (i : Int)) w) :=
  (pulledF_any ks s ps kv sv pv w hv hl hp n0 n5 hlen hsb hpw hpb hpl).mono fun _ _ ⟨v, h1, h2, h3⟩ => ⟨v, h1, h2, h3.1⟩
end Go.Proofs.Ytndgaklcnhoddaa
namespace Go.Proofs.Ytndgaklcnhoddaa
open Go.RowKit Go.Shelf
theorem fullP_congr {p q : Nat → Bool} {ks s : List Int} (h : ∀ i, i < ks.length → p i = q i) : fullP p ks s = fullP q ks s := by
  unfold fullP
  rw [Bool.eq_iff_iff, List.any_eq_true, List.any_eq_true]
  constructor
  · rintro ⟨i, hi, e⟩
    exact ⟨i, hi, by rw [← h i (List.mem_range.1 hi)]; exact e⟩
  · rintro ⟨i, hi, e⟩
    exact ⟨i, hi, by rw [h i (List.mem_range.1 hi)]; exact e⟩
theorem upP_congr {p q : Nat → Bool} {s : List Int} (h : ∀ i, i < s.length → p i = q i) : upP p s = upP q s := by
  unfold upP
  refine List.ext_getElem? fun i => ?_
  rw [List.getElem?_mapIdx, List.getElem?_mapIdx]
  by_cases hi : i < s.length
  · rw [h i hi]
  · rw [List.getElem?_eq_none (by omega)]; rfl
theorem upL_has {n i : Nat} (h : i < n) : (upL n).contains (i : Int) = true := List.contains_iff_mem.2 (List.mem_map.2 ⟨i, List.mem_range.2 h, rfl⟩)
theorem upL_sorted (n : Nat) : (upL n).Pairwise (· < ·) := by
  unfold upL
  rw [List.pairwise_map]
  exact List.pairwise_lt_range.imp fun h => by omega
theorem upL_bd {n : Nat} : ∀ x ∈ upL n, 0 ≤ x ∧ x < (n : Int) := fun x hx => by
  obtain ⟨i, hi, rfl⟩ := List.mem_map.1 hx
  have := List.mem_range.1 hi
  omega
theorem st_bd {ks s : List Int} (v : TVal ks) (h : isSt ks s = true) : ∀ i, i < s.length → 0 ≤ gt s i ∧ gt s i ≤ 1000 := fun i hi => by
  have h1 := isSt_gt h i (by rw [← isSt_len h]; exact hi)
  have h2 := v.at_ i (by rw [← isSt_len h]; exact hi)
  unfold gt at h1 ⊢
  omega
theorem pulledA_any (ks s : List Int) (kv sv pv : Value) (w : World) (hv : IsInts w .i64 kv ks) (hl : IsInts w .i64 sv s) (hp : IsInts w .i64 pv (upL ks.length)) (v : TVal ks) (hst : isSt ks s = true) :
    Calls Try.prog 49 #[.agg #[kv], sv, pv] w (RetPullR ks s allW w) := by
  have h := pulledR_any ks s (upL ks.length) kv sv pv w hv hl hp v.n1 v.n5 (isSt_len hst) (st_bd v hst) (upL_sorted _) upL_bd (by simp [upL]; have := v.n5; omega)
  unfold RetPullR at h ⊢
  rwa [fullP_congr (q := allW) (fun i hi => upL_has hi), upP_congr (q := allW) (fun i hi => upL_has (by rw [← isSt_len hst]; exact hi))] at h
theorem pulledAF_any (ks s : List Int) (kv sv pv : Value) (w : World) (hv : IsInts w .i64 kv ks) (hl : IsInts w .i64 sv s) (hp : IsInts w .i64 pv (upL ks.length)) (v : TVal ks) (hst : isSt ks s = true) :
    Calls Try.prog 49 #[.agg #[kv], sv, pv] w (RetPullF ks s allW w) := by
  have h := pulledF_any ks s (upL ks.length) kv sv pv w hv hl hp v.n1 v.n5 (isSt_len hst) (st_bd v hst) (upL_sorted _) upL_bd (by simp [upL]; have := v.n5; omega)
  unfold RetPullF at h ⊢
  rwa [fullP_congr (q := allW) (fun i hi => upL_has hi), upP_congr (q := allW) (fun i hi => upL_has (by rw [← isSt_len hst]; exact hi))] at h
set_option maxRecDepth 100000 in
set_option maxHeartbeats 1000000 in
theorem emptyR_any (ks : List Int) (kv : Value) (w : World) (hv : IsInts w .i64 kv ks) (h5 : ks.length ≤ 1000) :
    Calls Try.prog 54 #[.agg #[kv]] w fun e W => ∃ g, e = .returned (.slice (some ⟨g, 0, none⟩) ks.length ks.length) ∧ Ext w W ∧ w.heap.size ≤ g ∧ NumB W g ks.length (fun _ => 0) := by
  obtain ⟨sa, cap, rfl, h1, h2, -⟩ := hv.spec
  have HV := Lib.hid hv
  clear hv
  go_enter Try.func54, Try.ntmps54
  go_upto_region 1 with (fail)
  obtain ⟨W0, hW0⟩ : ∃ W0, W0 = w.alloc (.cells #[.slice sa ks.length cap] 24) := ⟨_, rfl⟩
  have hE : Ext w W0 := by rw [hW0]; exact (by repeat (first | exact Below.refl _ _ | refine Ext.al ?_ _ | refine Ext.dr ?_ | refine Ext.drN ?_ _ | refine Ext.gr ?_ _ | refine Ext.set ?_ (by simp) _ | (refine Ext.trans' ?_ (by assumption))))
  have k0 : W0.cell? ⟨w.heap.size, 0, none⟩ = some (.slice sa ks.length cap) := by rw [hW0]; simp [go_sem]
  have hz : w.heap.size < W0.heap.size := World.block_lt_of_cell? _ _ k0
  have HS := Lib.hid (HV.out.ext hE)
  have HW := Lib.hid hE
  rw [← hW0]
  clear hW0 HV
  clear hE
  obtain ⟨W1, hmk, hnum, hE1⟩ := make_ints W0 ks.length (by omega)
  have HN := Lib.hid hnum
  have HE1 := Lib.hid hE1
  clear hnum hE1
  go_wp2_with fail
  go_ret
  exact ⟨_, rfl, HW.out.trans' HE1.out, by omega, HN.out⟩
theorem playP_some {ks : List Int} : ∀ (row : List Int) {a b : Nat} {s t : List Int}, playP ks a s row = (some t, b) → b = a + row.length
  | [], a, b, s, t, h => by cases h; rfl
  | w :: row, a, b, s, t, h => by
    rw [playP] at h
    split at h
    · cases h
    · have := playP_some row h
      simp; omega
theorem playP_none {ks : List Int} : ∀ (row : List Int) {a b : Nat} {s : List Int}, playP ks a s row = (none, b) → b < a + row.length
  | [], a, b, s, h => by cases h
  | w :: row, a, b, s, h => by
    rw [playP] at h
    split at h
    · cases h; simp
    · have := playP_none row h
      simp; omega
set_option maxRecDepth 100000 in
set_option maxHeartbeats 2000000 in
theorem playedR_any (ks s row : List Int) (kv sv rv : Value) (w : World) (hv : IsInts w .i64 kv ks) (hl : IsInts w .i64 sv s) (hr : IsInts w .i64 rv row) (v : TVal ks) (hst : isSt ks s = true) (hw : WinL ks row) (hrl : row.length ≤ 2000) :
    Calls Try.prog 72 #[.agg #[kv], sv, rv] w fun e W => ∃ r, e = .returned (.tuple #[r, .int .i64 (playP ks 0 s row).2]) ∧ Ext w W ∧ IsInts W .i64 r ((playP ks 0 s row).1.getD []) := by
  obtain ⟨sa, cap, rfl, h1, h2, -⟩ := hv.spec
  obtain ⟨la, lcap, rfl, h3, h4, -⟩ := hl.spec
  obtain ⟨ra, rcap, rfl, h5, h6, -⟩ := hr.spec
  have HV := Lib.hid hv
  have HL0 := Lib.hid hl
  have HR0 := Lib.hid hr
  have V := Lib.hid v
  have HST := Lib.hid hst
  have HWIN := Lib.hid hw
  clear hv hl hr v hst hw
  go_enter Try.func72, Try.ntmps72
  go_upto_region 1 with (fail)
  obtain ⟨W0, hW0⟩ : ∃ W0, W0 = w.alloc (.cells #[.slice sa ks.length cap] 24) := ⟨_, rfl⟩
  have hE : Ext w W0 := by rw [hW0]; exact (by repeat (first | exact Below.refl _ _ | refine Ext.al ?_ _ | refine Ext.dr ?_ | refine Ext.drN ?_ _ | refine Ext.gr ?_ _ | refine Ext.set ?_ (by simp) _ | (refine Ext.trans' ?_ (by assumption))))
  have k0 : W0.cell? ⟨w.heap.size, 0, none⟩ = some (.slice sa ks.length cap) := by rw [hW0]; simp [go_sem]
  have hz : w.heap.size < W0.heap.size := World.block_lt_of_cell? _ _ k0
  have HS := Lib.hid (HV.out.ext hE)
  have HW := Lib.hid hE
  rw [← hW0]
  clear hW0 HV
  have HL := Lib.hid (HL0.out.ext hE)
  have HR := Lib.hid (HR0.out.ext hE)
  clear hE HL0 HR0
  go_wp2_with fail
  go_loopw [1, 8] (fun sv i W => ∃ (k : Nat) (t : List Int), k ≤ row.length ∧ i = .int .i64 k ∧ isSt ks t = true ∧ playP ks 0 s row = playP ks k t (row.drop k) ∧ IsInts W .i64 sv t ∧ Ext W0 W) (fun _ i _ => row.length - (intOf i).toNat)
  case atStart => exact ⟨0, s, by omega, rfl, HST.out, by simp, HL.out, Below.refl _ _⟩
  case round =>
    obtain ⟨k, t, hk, rfl, hts, hpl, hti, hE⟩ := hrel
    obtain ⟨ta, tc, rfl, ht1, ht2, -⟩ := hti.spec
    have HTS := Lib.hid hts
    have HPL := Lib.hid hpl
    have HTI := Lib.hid hti
    have HE := Lib.hid hE
    have k1 := cell_ext hE k0
    have hz1 := hE.size
    have HSr := Lib.hid (HS.out.ext hE)
    clear hts hpl hti hE
    by_cases hlt : k < row.length
    · have hki : (k : Int) < (row.length : Int) := by omega
      go_upto_region 4 with (fail)
      obtain ⟨Y, hY⟩ : ∃ Y, Y = wr := ⟨_, rfl⟩
      subst hY
      have hzY : w.heap.size < Y.heap.size := by omega
      obtain ⟨ok, hok⟩ : ∃ ok, ok = !fullP allW ks (t) := ⟨_, rfl⟩
      obtain ⟨XL, hXL⟩ : ∃ XL, XL = (if fullP allW ks (t) then [] else upP allW (t)) := ⟨_, rfl⟩
      have HOKX := Lib.hid hok
      have HXLX := Lib.hid hXL
      clear hok hXL
      refine wp_region_rove (Y.heap.size) (Nat.le_refl _)
        [sqV (.agg #[.slice sa ks.length cap]),
         sqV (.slice ta t.length tc),
         sqV (.agg #[.slice sa ks.length cap]),
         sqW (fun v W => IsInts W .i64 v (upL ks.length)) (fun _ _ _ h e => IsInts.ext e h),
         sqW (fun v W => ∃ r, v = .tuple #[r, .bool ok] ∧ IsInts W .i64 r XL) (fun _ _ _ ⟨r, h1, h2⟩ e => ⟨r, h1, IsInts.ext e h2⟩),
         sqW (fun v W => ∃ r, v = .tuple #[r, .bool ok] ∧ IsInts W .i64 r XL) (fun _ _ _ ⟨r, h1, h2⟩ e => ⟨r, h1, IsInts.ext e h2⟩),
         sqW (fun v W => IsInts W .i64 v XL) (fun _ _ _ h e => IsInts.ext e h),
         sqV (.bool ok),
         sqW (fun v W => IsInts W .i64 v XL) (fun _ _ _ h e => IsInts.ext e h),
         sqV (.bool ok)]
        [true, true, true, false, false, false, false, true, false, true] [false, false, false, false, false, false, false, false, false, false] [true, true, true, true, true, true, true, true, true, true] [true, true, true, true, true, true, true, true, true, true]
        (by kernel_rfl) (by kernel_rfl) (by decide +kernel) (by decide +kernel) (by decide +kernel) rfl ⟨rfl, rfl⟩ ⟨?s0, ?s1, ?s2, ?s3, ?s4, ?s5, ?s6, ?s7, ?s8, ?s9, trivial⟩ [some 18, some 19, some 20, some 21, some 22, some 17, some 23, some 24, some 9, some 10] rfl rfl ?send
      case s0 =>
        intro val ρ W hE hz hd hA hx
        have o0 : ρ (.tmp 3) = .pointer (some ⟨w.heap.size, 0, none⟩) := hA.old 3 (by decide)
        have f_k1 := cell_below hE (by simp only; omega) k1
        clear hd
        exact runq_val (W' := W) (by simp [execOp, o0, f_k1, go_sem]) (Below.refl _ _) rfl
      case s1 =>
        intro val ρ W hE hz hd hA hx
        have o0 : ρ (.tmp 1) = .slice ta t.length tc := hA.old 1 (by decide)
        clear hd
        exact runq_val (W' := W) (by simp [execOp, o0, go_sem]) (Below.refl _ _) rfl
      case s2 =>
        intro val ρ W hE hz hd hA hx
        have o0 : ρ (.tmp 3) = .pointer (some ⟨w.heap.size, 0, none⟩) := hA.old 3 (by decide)
        have f_k1 := cell_below hE (by simp only; omega) k1
        clear hd
        exact runq_val (W' := W) (by simp [execOp, o0, f_k1, go_sem]) (Below.refl _ _) rfl
      case s9 =>
        intro val ρ W hE hz hd hA hx
        have d7 : ρ (.tmp 24) = .bool ok := (hA.dep 7 (by decide) 24 rfl).trans (hd 7 (by decide))
        clear hd
        exact runq_val (W' := W) (by simp [execOp, d7, go_sem]) (Below.refl _ _) rfl
      case s3 =>
        intro val ρ W hE hz hd hA hx
        have d2 : ρ (.tmp 20) = .agg #[.slice sa ks.length cap] := (hA.dep 2 (by decide) 20 rfl).trans (hd 2 (by decide))
        clear hd
        refine runq_call 56 _ _ rfl #[.agg #[.slice sa ks.length cap]] (hA.func _) (by simp [d2]) (fun args W => Try.call56 args W) ((allR_any ks _ W (HSr.out.ext hE) (by have := (V).out.n5; omega)).mono ?_)
        rintro e w' ⟨v, rfl, hb, hi⟩
        exact ⟨_, rfl, hb, hi⟩
      case s4 =>
        intro val ρ W hE hz hd hA hx
        have d0 : ρ (.tmp 18) = .agg #[.slice sa ks.length cap] := (hA.dep 0 (by decide) 18 rfl).trans (hd 0 (by decide))
        have d1 : ρ (.tmp 19) = .slice ta t.length tc := (hA.dep 1 (by decide) 19 rfl).trans (hd 1 (by decide))
        have q3 : IsInts W .i64 (val 3) (upL ks.length) := hd 3 (by decide)
        have d3 : ρ (.tmp 21) = val 3 := hA.dep 3 (by decide) 21 rfl
        clear hd
        refine runq_call 49 _ _ rfl #[.agg #[.slice sa ks.length cap], .slice ta t.length tc, val 3] (hA.func _) (by simp [d0, d1, d3]) (fun args W => Try.call49 args W) ((pulledA_any ks (t) _ _ _ W (HSr.out.ext hE) (HTI.out.ext hE) q3 (V).out (HTS).out).mono ?_)
        rintro e w' ⟨v, rfl, hb, hi⟩
        exact ⟨_, rfl, hb, v, by rw [HOKX.out], by rw [HXLX.out]; exact hi⟩
      case s5 =>
        intro val ρ W hE hz hd hA hx
        obtain ⟨r, h1, h2⟩ : ∃ r, val 4 = .tuple #[r, .bool ok] ∧ IsInts W .i64 r XL := hd 4 (by decide)
        have d4 : ρ (.tmp 22) = .tuple #[r, .bool ok] := (hA.dep 4 (by decide) 22 rfl).trans h1
        exact runq_val (W' := W) (v := .tuple #[r, .bool ok]) (by simp [execOp, d4, go_sem]) (Below.refl _ _) ⟨r, rfl, h2⟩
      case s6 =>
        intro val ρ W hE hz hd hA hx
        obtain ⟨r, h1, h2⟩ : ∃ r, val 5 = .tuple #[r, .bool ok] ∧ IsInts W .i64 r XL := hd 5 (by decide)
        have d5 : ρ (.tmp 17) = .tuple #[r, .bool ok] := (hA.dep 5 (by decide) 17 rfl).trans h1
        exact runq_val (W' := W) (v := r) (by simp [execOp, d5, go_sem]) (Below.refl _ _) h2
      case s7 =>
        intro val ρ W hE hz hd hA hx
        obtain ⟨r, h1, h2⟩ : ∃ r, val 5 = .tuple #[r, .bool ok] ∧ IsInts W .i64 r XL := hd 5 (by decide)
        have d5 : ρ (.tmp 17) = .tuple #[r, .bool ok] := (hA.dep 5 (by decide) 17 rfl).trans h1
        exact runq_val (W' := W) (v := .bool ok) (by simp [execOp, d5, go_sem]) (Below.refl _ _) rfl
      case s8 =>
        intro val ρ W hE hz hd hA hx
        have q6 : IsInts W .i64 (val 6) XL := hd 6 (by decide)
        have d6 : ρ (.tmp 23) = val 6 := hA.dep 6 (by decide) 23 rfl
        exact runq_val (W' := W) (v := val 6) (by simp [execOp, d6, go_sem]) (Below.refl _ _) q6
      case send =>
        intro val WW hE hzz hv
        obtain ⟨-, -, -, -, -, -, -, -, q8, q9, -⟩ := hv
        have q9' : val 9 = .bool ok := q9
        replace q8 : IsInts WW .i64 (val 8) XL := q8
        obtain ⟨X8, hX8⟩ : ∃ X8, X8 = val 8 := ⟨_, rfl⟩
        rw [← hX8] at q8
        simp only [putD, q9', ← hX8]
        go_frame
        clear q9 q9' hX8 hzz
        obtain ⟨xa, xc, rfl, -, -, -⟩ := q8.spec
        have HX8 := Lib.hid q8
        clear q8
        have hE2 : Ext W0 WW := HE.out.trans' hE
        have k2 := cell_ext hE k1
        have HSW := Lib.hid (HSr.out.ext hE)
        have HEW := Lib.hid hE2
        have hz2 := hE2.size
        obtain ⟨rb, ro, rfl, hrz, HRC⟩ := (HR.out.ext hE2).at_all (by omega)
        have hpd := play_drop (ks := ks) hlt k t
        have hxw := HWIN.out row[k] (List.getElem_mem hlt)
        rw [gt_get hlt] at hxw
        obtain ⟨X, hX⟩ : ∃ X : Nat, gt row k = (X : Int) := ⟨(gt row k).toNat, by omega⟩
        have d0 := HRC WW (Below.refl _ _) k hlt
        rw [hX] at d0 hpd hxw
        rw [Int.toNat_natCast] at hpd
        have HPD := Lib.hid hpd
        clear hpd hX HRC hE hE2
        cases ok
        · have hf : fullP allW ks t = true := by have := HOKX.out; cases h : fullP allW ks t <;> simp [h] at this ⊢
          have HF := Lib.hid hf
          clear hf
          go_wp2_with fail
          refine bodyPost_ret (v := .tuple #[.slice none 0 0, .int .i64 k]) (by simp [results, Try.results72, go_sem]) rfl ?_
          have e : playP ks 0 s row = (none, k) := by rw [HPL.out, HPD.out, if_pos HF.out]
          exact ⟨_, by rw [e], HW.out.trans' HEW.out, by rw [e]; exact IsInts.nil _ _⟩
        · have hf : fullP allW ks t = false := by have := HOKX.out; cases h : fullP allW ks t <;> simp [h] at this ⊢
          have hxl : XL = upP allW t := by rw [HXLX.out, hf]; rfl
          have HF := Lib.hid hf
          subst hxl
          have hul : (upP allW t).length = t.length := upP_len _ _
          have htl := isSt_len HTS.out
          have hn5 := V.out.n5
          have HUL := Lib.hid hul
          have hXt : X < (upP allW t).length := by rw [hul, htl]; omega
          have hlu : (upP allW t).length ≤ 1000 := by rw [hul, htl]; omega
          clear hf hul
          go_wp2_with fail
          refine (visitedR_any (upP allW t) X _ _ HX8.out hXt hlu).mono ?_
          rintro e W2 ⟨r2, rfl, hE3, hr2⟩
          have HE3 := Lib.hid hE3
          have HR2 := Lib.hid hr2
          clear hE3 hr2
          go_wp2_with fail
          go_roundw
          case rel =>
            exact ⟨k + 1, visit (upP allW t) X, by omega, by go_num, visit_st (up_st HTS.out HF.out) (fun i hi => by have := V.out.at_ i hi; omega) X, by rw [HPL.out, HPD.out, if_neg (by rw [HF.out]; simp)], HR2.out, HEW.out.trans' HE3.out⟩
          case measure => simp [intOf]; omega
    · have hkl : k = row.length := by omega
      have hki : ¬ ((k : Int) < (row.length : Int)) := by omega
      have e : playP ks 0 s row = (some t, k) := by rw [HPL.out, hkl, List.drop_length]; rfl
      have HPE := Lib.hid e
      have HKL := Lib.hid hkl
      have htl := isSt_len HTS.out
      have hn5 := V.out.n5
      clear hkl e
      go_wp2_with (at_builtin; refine wpNew rfl (.tmp 34) (.tmp 35) elInt rfl wr.heap.size rfl (isNew _ _ _ _ (Nat.le_refl _)) rfl (t.map iRow) ints_len (HTI.out.ext (by exact (by repeat (first | exact Below.refl _ _ | refine Ext.al ?_ _ | refine Ext.dr ?_ | refine Ext.drN ?_ _ | refine Ext.gr ?_ _ | refine Ext.set ?_ (by simp) _ | (refine Ext.trans' ?_ (by assumption)))))) ints_one (by simp; omega) (by simp) ?_)
      intro v' W1 hown hE1
      have hEw : Ext wr W1 := Ext.trans' (by exact (by repeat (first | exact Below.refl _ _ | refine Ext.al ?_ _ | refine Ext.dr ?_ | refine Ext.drN ?_ _ | refine Ext.gr ?_ _ | refine Ext.set ?_ (by simp) _ | (refine Ext.trans' ?_ (by assumption))))) hE1
      have HE1 := Lib.hid hEw
      have HO := Lib.hid hown.oneInts
      obtain ⟨oa, on, oc, rfl⟩ := hown.isSlice
      clear hown hE1 hEw
      go_wp2_with fail
      refine bodyPost_ret (v := .tuple #[.slice oa on oc, .int .i64 row.length]) (by simp [results, Try.results72, go_sem]) rfl ?_
      exact ⟨_, by rw [HPE.out, HKL.out], HW.out.trans' (HE.out.trans' HE1.out), by rw [HPE.out]; exact HO.out⟩
end Go.Proofs.Ytndgaklcnhoddaa
namespace Go.Proofs.Ytndgaklcnhoddaa
open Go.RowKit Go.Shelf
set_option maxRecDepth 100000 in
set_option maxHeartbeats 1000000 in
theorem leastR_any (s t : List Int) (sv tv : Value) (w : World) (hs : IsInts w .i64 sv s) (ht : IsInts w .i64 tv t) (hl : s.length = t.length) :
    Calls Try.prog 104 #[sv, tv] w fun e W => e = .returned (.bool (geB s t)) ∧ Ext w W := by
  obtain ⟨sa, cap, rfl, h1, h2, -⟩ := hs.spec
  obtain ⟨ta, tcap, rfl, h3, h4, -⟩ := ht.spec
  have HS := Lib.hid hs
  have HT := Lib.hid ht
  have HLL := Lib.hid hl
  clear hs ht hl
  go_enter Try.func104, Try.ntmps104
  go_wp2_with fail
  go_loopw [5] (fun i W => ∃ k : Nat, k ≤ s.length ∧ i = .int .i64 k ∧ (∀ j, j < k → gt t j ≤ gt s j) ∧ Ext w W) (fun i _ => s.length - (intOf i).toNat)
  case atStart => exact ⟨0, by omega, rfl, fun j h => by omega, Below.refl _ _⟩
  case round =>
    obtain ⟨k, hk, rfl, hok, hE⟩ := hrel
    have HOK := Lib.hid hok
    have HE := Lib.hid hE
    by_cases hlt : k < s.length
    · have hki : (k : Int) < (s.length : Int) := by omega
      have hkt : k < t.length := by rw [← HLL.out]; exact hlt
      have hkti : (k : Int) < (t.length : Int) := by omega
      obtain ⟨b, off, rfl, hz1, HC⟩ := HS.out.at_all (by omega)
      obtain ⟨b2, off2, rfl, hz2, HC2⟩ := HT.out.at_all (by omega)
      have d0 := HC wr hE k hlt
      have d1 := HC2 wr hE k hkt
      obtain ⟨x, hx⟩ : ∃ x, x = gt s k := ⟨_, rfl⟩
      obtain ⟨y, hy⟩ : ∃ y, y = gt t k := ⟨_, rfl⟩
      rw [← hx] at d0
      rw [← hy] at d1
      have HX := Lib.hid hx
      have HY := Lib.hid hy
      clear hE HC HC2 hx hy hok
      by_cases hxy : x < y
      · have hd : decide (x < y) = true := decide_eq_true hxy
        have HXY := Lib.hid hxy
        clear hxy
        go_upto_region 4 with (fail)
        go_quiet (fail)
        go_wp2_with fail
        go_ret
        refine ⟨?_, HE.out.drN _⟩
        have : geB s t = false := by
          cases h : geB s t with
          | false => rfl
          | true =>
            have h3 := geB_iff.1 h k hlt
            have h4 := HXY.out
            rw [HX.out, HY.out] at h4
            unfold gt at h4
            omega
        rw [this]; rfl
      · have hd : decide (x < y) = false := decide_eq_false hxy
        have HXY := Lib.hid (show y ≤ x by omega)
        clear hxy
        go_upto_region 4 with (fail)
        go_quiet (fail)
        go_wp2_with fail
        go_roundw
        case rel =>
          refine ⟨k + 1, by omega, by go_num, fun j hj => ?_, HE.out.drN _⟩
          by_cases e : j < k
          · exact HOK.out j e
          · obtain rfl : j = k := by omega
            rw [← HX.out, ← HY.out]; exact HXY.out
        case measure => simp [intOf]; omega
    · have hkl : k = s.length := by omega
      have hki : ¬ ((k : Int) < (s.length : Int)) := by omega
      have hge : geB s t = true := geB_iff.2 fun i hi => hok i (by omega)
      have HG := Lib.hid hge
      clear hok hE hkl hge
      go_wp2_with fail
      go_ret
      exact ⟨by rw [HG.out]; rfl, HE.out⟩
/-- where steps lie, in all later worlds -/
theorem IsStps.at_all {w : World} {sa : Option Addr} {n cap : Nat} {l : List (List Int × Int)} (h : IsStps w (.slice sa n cap) l) (hl : 0 < l.length) :
    ∃ b off, sa = some ⟨b, off, none⟩ ∧ ∀ i, (hi : i < l.length) → ∃ xa xc, ∀ W, Ext w W → IsInts W .i64 (.slice xa (l[i]).1.length xc) (l[i]).1 ∧ W.cell? ⟨b, off + i * 2, none⟩ = some (.slice xa (l[i]).1.length xc) ∧ W.cell? ⟨b, off + i * 2 + 1, none⟩ = some (.int .i64 (l[i]).2) := by
  obtain ⟨sa', cap', e, -, -, hcc⟩ := h
  cases e
  rcases hcc with hcc | ⟨b, off, rfl, hcc⟩
  · rw [hcc] at hl; simp at hl
  · refine ⟨b, off, rfl, fun i hi => ?_⟩
    obtain ⟨xa, xc, a, c, d⟩ := hcc i hi
    exact ⟨xa, xc, fun W hW => ⟨c.ext hW, cell_ext hW a, cell_ext hW d⟩⟩
theorem IsStps.spec {w : World} {v : Value} {l : List (List Int × Int)} (h : IsStps w v l) : ∃ sa cap, v = .slice sa l.length cap ∧ l.length ≤ cap ∧ cap ≤ 9223372036854775807 := by
  obtain ⟨sa, cap, h1, h2, h3, -⟩ := h
  exact ⟨sa, cap, h1, h2, h3⟩
theorem take_snoc_mem {α : Type} {l : List α} {k : Nat} (hk : k < l.length) {p : α → Prop} (h : ∀ x ∈ l.take k, p x) (h1 : p l[k]) : ∀ x ∈ l.take (k + 1), p x := fun x hx => by
  rw [List.take_add_one, List.getElem?_eq_getElem hk] at hx
  rcases List.mem_append.1 hx with hx | hx
  · exact h x hx
  · simp at hx; subst hx; exact h1
set_option maxRecDepth 100000 in
set_option maxHeartbeats 1000000 in
theorem belowR_any (l : List (List Int × Int)) (s : List Int) (left : Int) (lv sv : Value) (w : World) (hl : IsStps w lv l) (hs : IsInts w .i64 sv s) (hd : ∀ d ∈ l, d.1.length = s.length) :
    Calls Try.prog 85 #[lv, sv, .int .i64 left] w fun e W => e = .returned (.bool (covB l s left)) ∧ Ext w W := by
  obtain ⟨sa, cap, rfl, h1, h2⟩ := hl.spec
  obtain ⟨ta, tcap, rfl, h3, h4, -⟩ := hs.spec
  have HL := Lib.hid hl
  have HS := Lib.hid hs
  have HD := Lib.hid hd
  clear hs hl hd
  go_enter Try.func85, Try.ntmps85
  go_wp2_with fail
  go_loopw [7] (fun i W => ∃ k : Nat, k ≤ l.length ∧ i = .int .i64 k ∧ (∀ x ∈ l.take k, (decide (x.2 < left) && geB s x.1) = false) ∧ Ext w W) (fun i _ => l.length - (intOf i).toNat)
  case atStart => exact ⟨0, by omega, rfl, by simp, Below.refl _ _⟩
  case round =>
    obtain ⟨k, hk, rfl, hok, hE⟩ := hrel
    have HOK := Lib.hid hok
    have HE := Lib.hid hE
    by_cases hlt : k < l.length
    · have hki : (k : Int) < (l.length : Int) := by omega
      obtain ⟨b, off, rfl, HC⟩ := HL.out.at_all (by omega)
      obtain ⟨xa, xc, hxc⟩ := HC k hlt
      obtain ⟨hqi, d0, d1⟩ := hxc wr hE
      have hdl := HD.out l[k] (List.getElem_mem hlt)
      have hnx := fun h => take_snoc_mem hlt (p := fun x => (decide (x.2 < left) && geB s x.1) = false) HOK.out h
      have hyes : (decide ((l[k]).2 < left) && geB s (l[k]).1) = true → covB l s left = true := fun h => List.any_eq_true.2 ⟨l[k], List.getElem_mem hlt, h⟩
      obtain ⟨d, hd⟩ : ∃ d, d = l[k] := ⟨_, rfl⟩
      rw [← hd] at d0 d1 hqi hnx hdl hyes
      obtain ⟨t, y⟩ := d
      simp only at d0 d1 hqi hnx hdl hyes
      have HQ := Lib.hid hqi
      have HNX := Lib.hid hnx
      have HYES := Lib.hid hyes
      have HDL := Lib.hid hdl
      clear hE HC hxc hd hqi hnx hdl hok hyes
      by_cases hxy : y < left
      · have hd : decide (y < left) = true := decide_eq_true hxy
        rw [hd] at HNX HYES
        clear hxy
        go_wp2_with fail
        refine (leastR_any s t _ _ _ (HS.out.ext (by exact HE.out)) (HQ.out.ext (by exact (by repeat (first | exact Below.refl _ _ | refine Ext.al ?_ _ | refine Ext.dr ?_ | refine Ext.drN ?_ _ | refine Ext.gr ?_ _ | refine Ext.set ?_ (by simp) _ | (refine Ext.trans' ?_ (by assumption)))))) HDL.out.symm).mono ?_
        rintro e W2 ⟨rfl, hE2⟩
        have HE2 := Lib.hid (HE.out.trans' hE2)
        clear hE2
        cases hg : geB s t
        · have HG := Lib.hid hg
          clear hg
          go_wp2_with fail
          go_roundw
          case rel => exact ⟨k + 1, by omega, by go_num, HNX.out (by rw [HG.out]; rfl), HE2.out⟩
          case measure => simp [intOf]; omega
        · have HG := Lib.hid hg
          clear hg
          go_wp2_with fail
          go_ret
          exact ⟨by rw [HYES.out (by rw [HG.out]; rfl)]; rfl, HE2.out⟩
      · have hd : decide (y < left) = false := decide_eq_false hxy
        rw [hd] at HNX
        clear hxy
        go_wp2_with fail
        go_roundw
        case rel => exact ⟨k + 1, by omega, by go_num, HNX.out rfl, HE.out⟩
        case measure => simp [intOf]; omega
    · have hkl : k = l.length := by omega
      have hki : ¬ ((k : Int) < (l.length : Int)) := by omega
      have hge : covB l s left = false := by
        cases h : covB l s left with
        | false => rfl
        | true =>
          obtain ⟨d, hd, h⟩ := List.any_eq_true.1 h
          rw [hkl, List.take_length] at hok
          rw [hok d hd] at h; cases h
      have HG := Lib.hid hge
      clear hok hE hkl hge
      go_wp2_with fail
      go_ret
      exact ⟨by rw [HG.out]; rfl, HE.out⟩
end Go.Proofs.Ytndgaklcnhoddaa
namespace Go.Proofs.Ytndgaklcnhoddaa
open Go.RowKit Go.Shelf
theorem cc_drop {c : List Int} {j : Nat} (h : j < 2 * c.length) : (c ++ c).drop j = gt c (j % c.length) :: (c ++ c).drop (j + 1) ∧ j % c.length < c.length := by
  have hn : 0 < c.length := by omega
  have hl := Nat.mod_lt j hn
  refine ⟨?_, hl⟩
  rw [List.drop_eq_getElem_cons (by simp; omega)]
  congr 1
  by_cases hj : j < c.length
  · rw [List.getElem_append_left hj, gt_get hj, Nat.mod_eq_of_lt hj]
  · have e : j % c.length = j - c.length := by
      rw [Nat.mod_eq_sub_mod (by omega), Nat.mod_eq_of_lt (by omega)]
    rw [List.getElem_append_right (by omega), gt_get (by omega), e]
theorem cc_take {c : List Int} {j : Nat} (h : j < 2 * c.length) (x : Int) : x ∈ (c ++ c).take (j + 1) ↔ x ∈ (c ++ c).take j ∨ x = gt c (j % c.length) := by
  have h1 : j < (c ++ c).length := by simp; omega
  have e : (c ++ c)[j] = gt c (j % c.length) := by
    have := (cc_drop h).1
    rw [List.drop_eq_getElem_cons h1] at this
    exact (List.cons.inj this).1
  rw [List.take_succ_eq_append_getElem h1, e, List.mem_append, List.mem_singleton]
set_option maxRecDepth 100000 in
set_option maxHeartbeats 4000000 in
theorem checkCircleR_any (ks c : List Int) (kv rv : Value) (w : World) (hv : IsInts w .i64 kv ks) (hr : IsInts w .i64 rv c) :
    Calls Try.prog 29 #[.agg #[kv], rv] w fun e w' => e = .returned (.int .i64 (circErr ks c)) ∧ Ext w w' := by
  obtain ⟨sa, cap, rfl, h1, h2, -⟩ := hv.spec
  obtain ⟨ra, rcap, rfl, h5, h6, -⟩ := hr.spec
  have HV := Lib.hid hv
  have HR0 := Lib.hid hr
  clear hv hr
  go_enter Try.func29, Try.ntmps29
  go_upto_region 1 with (fail)
  obtain ⟨W0, hW0⟩ : ∃ W0, W0 = w.alloc (.cells #[.slice sa ks.length cap] 24) := ⟨_, rfl⟩
  have hE : Ext w W0 := by rw [hW0]; exact (by repeat (first | exact Below.refl _ _ | refine Ext.al ?_ _ | refine Ext.dr ?_ | refine Ext.drN ?_ _ | refine Ext.gr ?_ _ | refine Ext.set ?_ (by simp) _ | (refine Ext.trans' ?_ (by assumption))))
  have k0 : W0.cell? ⟨w.heap.size, 0, none⟩ = some (.slice sa ks.length cap) := by rw [hW0]; simp [go_sem]
  have hz : w.heap.size < W0.heap.size := World.block_lt_of_cell? _ _ k0
  have HS := Lib.hid (HV.out.ext hE)
  have HW := Lib.hid hE
  rw [← hW0]
  clear hW0 HV
  have HR := Lib.hid (HR0.out.ext hE)
  clear hE HR0
  obtain ⟨er, her⟩ : ∃ er, er = tchk ks := ⟨_, rfl⟩
  obtain ⟨re, hre⟩ : ∃ re, re = rowErr ks c := ⟨_, rfl⟩
  have c1 := fun W h1 => checkHallR_any ks (.slice sa ks.length cap) W h1
  have c2 := fun W h1 h2 => isRow_any ks c (.slice sa ks.length cap) (.slice ra c.length rcap) W h1 h2
  simp only [← her] at c1
  simp only [← hre] at c2
  have C1 := Lib.hid c1
  have C2 := Lib.hid c2
  have HER := Lib.hid her
  have HRE := Lib.hid hre
  clear c1 c2 her hre



  by_cases hc : er = 0
  rotate_left
  · have e1 : (er == 0) = false := by simpa using hc
    have e2 : (er != 0) = true := by simpa using hc
    have HC := Lib.hid hc
    clear hc

    go_wp2_with fail
    refine callW (W0 := W0) (g := ⟨W0, Below.refl _ _⟩) (by exact (by repeat (first | exact Below.refl _ _ | refine Ext.al ?_ _ | refine Ext.dr ?_ | refine Ext.drN ?_ _ | refine Ext.gr ?_ _ | refine Ext.set ?_ (by simp) _ | (refine Ext.trans' ?_ (by assumption))))) (C1.out _ (HS.out.ext (by exact (by repeat (first | exact Below.refl _ _ | refine Ext.al ?_ _ | refine Ext.dr ?_ | refine Ext.drN ?_ _ | refine Ext.gr ?_ _ | refine Ext.set ?_ (by simp) _ | (refine Ext.trans' ?_ (by assumption))))))) fun g1 hgr => ?_
    clear hgr
    go_wp2_with fail
    refine callW (W0 := W0) (g := g1) (by exact (by repeat (first | exact Below.refl _ _ | refine Ext.al ?_ _ | refine Ext.dr ?_ | refine Ext.drN ?_ _ | refine Ext.gr ?_ _ | refine Ext.set ?_ (by simp) _ | (refine Ext.trans' ?_ (by assumption))))) (C1.out _ (HS.out.ext (by exact (by repeat (first | exact Below.refl _ _ | refine Ext.al ?_ _ | refine Ext.dr ?_ | refine Ext.drN ?_ _ | refine Ext.gr ?_ _ | refine Ext.set ?_ (by simp) _ | (refine Ext.trans' ?_ (by assumption))))))) fun g2 hgr => ?_
    clear hgr
    go_wp2_with fail
    go_ret
    exact ⟨ret_int (by unfold circErr; rw [if_pos (by rw [← HER.out]; exact HC.out), HER.out]), HW.out.trans' (grow_below W0 _)⟩

  have HC := Lib.hid (HER.out.symm.trans hc)
  subst hc
  have V := Lib.hid (tval_of HC.out)
  have n1 := V.out.n1
  have n5 := V.out.n5
  go_wp2_with fail
  refine callW (W0 := W0) (g := ⟨W0, Below.refl _ _⟩) (by exact (by repeat (first | exact Below.refl _ _ | refine Ext.al ?_ _ | refine Ext.dr ?_ | refine Ext.drN ?_ _ | refine Ext.gr ?_ _ | refine Ext.set ?_ (by simp) _ | (refine Ext.trans' ?_ (by assumption))))) (C1.out _ (HS.out.ext (by exact (by repeat (first | exact Below.refl _ _ | refine Ext.al ?_ _ | refine Ext.dr ?_ | refine Ext.drN ?_ _ | refine Ext.gr ?_ _ | refine Ext.set ?_ (by simp) _ | (refine Ext.trans' ?_ (by assumption))))))) fun g3 hgr => ?_
  clear hgr
  by_cases hl : c.length < 1
  · have e1 : decide ((c.length : Int) < 1) = true := decide_eq_true (by omega)
    have HL := Lib.hid hl
    clear hl
    go_wp2_with fail
    go_ret
    exact ⟨ret_int (by unfold circErr; rw [if_neg (fun h => h HC.out), if_pos HL.out]), HW.out.trans' (grow_below W0 _)⟩
  have e1 : decide ((c.length : Int) < 1) = false := decide_eq_false (by omega)
  have HL := Lib.hid hl
  have hn0 : 0 < c.length := by omega
  clear hl
  by_cases hre : re = 0
  rotate_left
  · have e2 : (re == 0) = false := by simpa using hre
    have e3 : (re != 0) = true := by simpa using hre
    have HR2 := Lib.hid hre
    clear hre

    go_wp2_with fail
    refine callW (W0 := W0) (g := g3) (by exact (by repeat (first | exact Below.refl _ _ | refine Ext.al ?_ _ | refine Ext.dr ?_ | refine Ext.drN ?_ _ | refine Ext.gr ?_ _ | refine Ext.set ?_ (by simp) _ | (refine Ext.trans' ?_ (by assumption))))) (C2.out _ (HS.out.ext (by exact (by repeat (first | exact Below.refl _ _ | refine Ext.al ?_ _ | refine Ext.dr ?_ | refine Ext.drN ?_ _ | refine Ext.gr ?_ _ | refine Ext.set ?_ (by simp) _ | (refine Ext.trans' ?_ (by assumption)))))) (HR.out.ext (by exact (by repeat (first | exact Below.refl _ _ | refine Ext.al ?_ _ | refine Ext.dr ?_ | refine Ext.drN ?_ _ | refine Ext.gr ?_ _ | refine Ext.set ?_ (by simp) _ | (refine Ext.trans' ?_ (by assumption))))))) fun g4 hgr => ?_
    clear hgr
    go_wp2_with fail
    refine callW (W0 := W0) (g := g4) (by exact (by repeat (first | exact Below.refl _ _ | refine Ext.al ?_ _ | refine Ext.dr ?_ | refine Ext.drN ?_ _ | refine Ext.gr ?_ _ | refine Ext.set ?_ (by simp) _ | (refine Ext.trans' ?_ (by assumption))))) (C2.out _ (HS.out.ext (by exact (by repeat (first | exact Below.refl _ _ | refine Ext.al ?_ _ | refine Ext.dr ?_ | refine Ext.drN ?_ _ | refine Ext.gr ?_ _ | refine Ext.set ?_ (by simp) _ | (refine Ext.trans' ?_ (by assumption)))))) (HR.out.ext (by exact (by repeat (first | exact Below.refl _ _ | refine Ext.al ?_ _ | refine Ext.dr ?_ | refine Ext.drN ?_ _ | refine Ext.gr ?_ _ | refine Ext.set ?_ (by simp) _ | (refine Ext.trans' ?_ (by assumption))))))) fun g5 hgr => ?_
    clear hgr
    go_wp2_with fail
    go_ret
    exact ⟨ret_int (by unfold circErr; rw [if_neg (fun h => h HC.out), if_neg HL.out, if_pos (by rw [← HRE.out]; exact HR2.out), HRE.out]), HW.out.trans' (grow_below W0 _)⟩

  have HR1 := Lib.hid (HRE.out.symm.trans hre)
  subst hre
  obtain ⟨hlr, hwin⟩ := rowErr_ok HR1.out
  have hceq : circErr ks c = if circR ks c = true then 0 else 17 := by
    unfold circErr
    rw [if_neg (fun h => h HC.out), if_neg HL.out, if_neg (fun h => h HR1.out), circ_eq V.out (fun x hx => (hwin x hx).1)]
  have HCEQ := Lib.hid hceq
  clear hwin hceq
  go_wp2_with fail
  refine callW (W0 := W0) (g := g3) (by exact (by repeat (first | exact Below.refl _ _ | refine Ext.al ?_ _ | refine Ext.dr ?_ | refine Ext.drN ?_ _ | refine Ext.gr ?_ _ | refine Ext.set ?_ (by simp) _ | (refine Ext.trans' ?_ (by assumption))))) (C2.out _ (HS.out.ext (by exact (by repeat (first | exact Below.refl _ _ | refine Ext.al ?_ _ | refine Ext.dr ?_ | refine Ext.drN ?_ _ | refine Ext.gr ?_ _ | refine Ext.set ?_ (by simp) _ | (refine Ext.trans' ?_ (by assumption)))))) (HR.out.ext (by exact (by repeat (first | exact Below.refl _ _ | refine Ext.al ?_ _ | refine Ext.dr ?_ | refine Ext.drN ?_ _ | refine Ext.gr ?_ _ | refine Ext.set ?_ (by simp) _ | (refine Ext.trans' ?_ (by assumption))))))) fun g6 hgr => ?_
  clear hgr
  go_upto_region 7 with (fail)
  obtain ⟨G0, hG0⟩ : ∃ zz9, zz9 = (grow W0 g6) := ⟨_, rfl⟩
  have eG0 : Ext W0 G0 := by rw [hG0]; exact (by repeat (first | exact Below.refl _ _ | refine Ext.al ?_ _ | refine Ext.dr ?_ | refine Ext.drN ?_ _ | refine Ext.gr ?_ _ | refine Ext.set ?_ (by simp) _ | (refine Ext.trans' ?_ (by assumption))))
  replace k0 := cell_ext eG0 k0
  replace HS := Lib.hid (HS.out.ext eG0)
  replace HR := Lib.hid (HR.out.ext eG0)
  replace HW := Lib.hid (HW.out.trans' eG0)
  rw [← hG0]
  replace hz := World.block_lt_of_cell? _ _ k0
  clear hG0 eG0
  obtain ⟨kb, ko, rfl, hkz, HKC⟩ := HS.out.at_all n1
  obtain ⟨cb, co, rfl, hcz, HCC⟩ := HR.out.at_all hn0
  have hkc := fun i hi => HKC G0 (Below.refl _ _) i hi
  have hcc := fun i hi => HCC G0 (Below.refl _ _) i hi
  have KC := Lib.hid hkc
  have CC := Lib.hid hcc
  clear HKC HCC hkc hcc
  go_wp2_with fail
  go_loop [5] (fun i => ∃ k : Nat, k ≤ ks.length ∧ i = .int .i64 k ∧ ∀ j, j < k → (gap (ks.getD j 0) j 0 false (c ++ c) && c.contains (j : Int)) = true) (fun i => ks.length - (intOf i).toNat)
  case atStart => exact ⟨0, by omega, rfl, fun j h => by omega⟩
  case round =>
    obtain ⟨k, hk, rfl, hok⟩ := hrel
    have HOK := Lib.hid hok
    clear hok
    by_cases hlt : k < ks.length
    · have hki : (k : Int) < (ks.length : Int) := by omega
      have d0 := KC.out k hlt
      obtain ⟨m, hm⟩ : ∃ m, m = gt ks k := ⟨_, rfl⟩
      rw [← hm] at d0
      have HM := Lib.hid hm
      clear hm
      obtain ⟨v4, rfl⟩ : ∃ v4, v4 = u4 := ⟨_, rfl⟩
      go_wp2_with fail
      go_loop [6, 7, 8] (fun tv sv i => ∃ (j t : Nat) (seen : Bool), j ≤ 2 * c.length ∧ t ≤ j ∧ tv = .int .i64 t ∧ sv = .bool seen ∧ i = .int .i64 j ∧ gap m k 0 false (c ++ c) = gap m k t seen ((c ++ c).drop j) ∧ (seen = true ↔ (k : Int) ∈ (c ++ c).take j)) (fun _ _ i => 2 * c.length - (intOf i).toNat)
      case atStart => exact ⟨0, 0, false, by omega, by omega, rfl, rfl, rfl, by simp, by simp⟩
      case round =>
        obtain ⟨j, t, seen, hj, ht, rfl, rfl, rfl, hg, hseen⟩ := hrel
        by_cases hlj : j < 2 * c.length
        · have hji : (j : Int) < 2 * (c.length : Int) := by omega
          obtain ⟨hdr, hJ⟩ := cc_drop hlj
          have htk := cc_take hlj (k : Int)
          obtain ⟨J, hJe⟩ : ∃ J, J = j % c.length := ⟨_, rfl⟩
          rw [← hJe] at hdr hJ htk
          have hJi : (J : Int) < (c.length : Int) := by omega
          have d1 := CC.out J hJ
          obtain ⟨x, hx⟩ : ∃ x, x = gt c J := ⟨_, rfl⟩
          rw [← hx] at d1 hdr htk
          rw [hdr, gap] at hg
          have hmd : (j : Int) % (c.length : Int) = (J : Int) := by rw [hJe]; rfl
          have hmt : Int.tmod (j : Int) (c.length : Int) = (J : Int) := by rw [← hmd]; exact Int.tmod_eq_emod_of_nonneg (by omega)
          have HG := Lib.hid hg
          have HSE := Lib.hid hseen
          have HTK := Lib.hid htk
          clear hg hseen htk hdr hJe hx
          by_cases hxk : x = (k : Int)
          · subst hxk
            have hne : (((k : Nat) : Int) != (k : Int)) = false := by simp
            cases seen
            · go_wp2_with fail
              go_round
              case rel => exact ⟨j + 1, 0, true, by omega, by omega, rfl, rfl, by go_num, by rw [HG.out, if_pos rfl, if_neg (by simp)]; rfl, ⟨fun _ => HTK.out.2 (.inr rfl), fun _ => rfl⟩⟩
              case measure => simp [intOf]; omega
            · by_cases hf : m < (t : Int) + 1
              · have hd : decide (m < (t : Int) + 1) = true := decide_eq_true hf
                have hfin : circErr ks c = 17 := by
                  rw [HCEQ.out, if_neg]
                  intro h
                  have := List.all_eq_true.1 h k (List.mem_range.2 hlt)
                  rw [Bool.and_eq_true] at this
                  have h2 := this.1
                  have e : ks.getD k 0 = m := HM.out.symm
                  rw [e, HG.out, if_pos rfl, if_pos ⟨rfl, hf⟩] at h2
                  cases h2
                have HFIN := Lib.hid hfin
                clear hfin hf
                go_wp2_with fail
                go_ret
                exact ⟨ret_int HFIN.out.symm, HW.out⟩
              · have hd : decide (m < (t : Int) + 1) = false := decide_eq_false hf
                have HF := Lib.hid hf
                clear hf
                go_wp2_with fail
                go_round
                case rel => exact ⟨j + 1, 0, true, by omega, by omega, rfl, rfl, by go_num, by rw [HG.out, if_pos rfl, if_neg (fun h => HF.out h.2)]; rfl, ⟨fun _ => HTK.out.2 (.inr rfl), fun _ => rfl⟩⟩
                case measure => simp [intOf]; omega
          · have hne : (x != (k : Int)) = true := by simpa using hxk
            have HXK := Lib.hid hxk
            clear hxk
            go_wp2_with fail
            go_round
            case rel => exact ⟨j + 1, t + 1, seen, by omega, by omega, by go_num, rfl, by go_num, by rw [HG.out, if_neg HXK.out]; rfl, by rw [HTK.out, HSE.out]; exact ⟨.inl, fun h => h.resolve_right fun e => HXK.out e.symm⟩⟩
            case measure => simp [intOf]; omega
        · have hje : j = 2 * c.length := by omega
          have hji : ¬ ((j : Int) < 2 * (c.length : Int)) := by omega
          have hg1 : gap m k 0 false (c ++ c) = true := by
            rw [hg, List.drop_of_length_le (by simp; omega)]; rfl
          have hse : seen = c.contains (k : Int) := by
            rw [List.take_of_length_le (by simp; omega)] at hseen
            rw [Bool.eq_iff_iff, hseen, List.contains_iff_mem]
            simp
          have HG1 := Lib.hid hg1
          have HSE := Lib.hid hse
          clear hg hseen hg1 hse hje
          cases seen
          · have hfin : circErr ks c = 17 := by
              rw [HCEQ.out, if_neg]
              intro h
              have := List.all_eq_true.1 h k (List.mem_range.2 hlt)
              rw [Bool.and_eq_true] at this
              rw [← HSE.out] at this
              cases this.2
            have HFIN := Lib.hid hfin
            clear hfin
            go_wp2_with fail
            go_ret
            exact ⟨ret_int HFIN.out.symm, HW.out⟩
          · go_wp2_with fail
            go_round
            case rel =>
              refine ⟨k + 1, by omega, by go_num, fun i hi => ?_⟩
              by_cases hik : i < k
              · exact HOK.out i hik
              · obtain rfl : i = k := by omega
                have e : ks.getD i 0 = m := HM.out.symm
                rw [e, HG1.out, ← HSE.out]; rfl
            case measure => simp [intOf]; omega
    · have hkl : k = ks.length := by omega
      have hki : ¬ ((k : Int) < (ks.length : Int)) := by omega
      have hfin : circErr ks c = 0 := by
        rw [HCEQ.out, if_pos]
        exact List.all_eq_true.2 fun i hi => HOK.out i (by rw [hkl]; exact List.mem_range.1 hi)
      have HFIN := Lib.hid hfin
      clear hfin hkl
      go_wp2_with fail
      go_ret
      exact ⟨ret_int HFIN.out.symm, HW.out⟩
end Go.Proofs.Ytndgaklcnhoddaa
namespace Go.Proofs.Ytndgaklcnhoddaa
open Go.RowKit Go.Shelf
/-- numbers that were laid just now -/
theorem newInts (w : World) (l : List Int) (arr : Array Value) (T : TypeId) (b n : Nat) (hb : b = w.heap.size) (hn : n = l.length) (ha : arr = (l.map (Value.int .i64)).toArray) (hm : n ≤ 9223372036854775807) :
    IsInts (w.alloc (.cells arr T)) .i64 (.slice (some ⟨b, 0, none⟩) n n) l := by
  subst hb hn ha
  refine IsInts.mk (Nat.le_refl _) hm fun i hi => ?_
  have hg : (w.alloc (.cells (l.map (Value.int .i64)).toArray T)).heap[w.heap.size]? = some (.cells (l.map (Value.int .i64)).toArray T (0, 0)) := by
    show (w.heap.push _)[w.heap.size]? = _
    rw [Array.getElem?_push, if_pos rfl]
  rw [cell_of_row _ _ _ _ _ _ hg, Nat.zero_add]
  simp [hi]
set_option maxHeartbeats 1000000 in
theorem hallL_any (l : List Int) (v : Value) (w : World) (hv : IsInts w .i64 v l) :
    Calls Try.prog 60 #[v] w fun e W => ∃ v', e = .returned (.agg #[v']) ∧ Ext w W ∧ IsInts W .i64 v' l := by
  obtain ⟨sa, cap, rfl, h1, h2, -⟩ := hv.spec
  have HV := Lib.hid hv
  clear hv
  go_enter Try.func60, Try.ntmps60
  go_wp2_with fail
  refine bodyPost_ret (v := .agg #[.slice sa l.length cap]) (by simp [results, Try.results60, go_sem]) rfl ⟨_, rfl, (by repeat (first | exact Below.refl _ _ | refine Ext.al ?_ _ | refine Ext.dr ?_ | refine Ext.drN ?_ _ | refine Ext.gr ?_ _ | refine Ext.set ?_ (by simp) _ | (refine Ext.trans' ?_ (by assumption)))), HV.out.ext (by exact (by repeat (first | exact Below.refl _ _ | refine Ext.al ?_ _ | refine Ext.dr ?_ | refine Ext.drN ?_ _ | refine Ext.gr ?_ _ | refine Ext.set ?_ (by simp) _ | (refine Ext.trans' ?_ (by assumption)))))⟩
set_option maxHeartbeats 1000000 in
theorem stepL_any (l : List Int) (n : Int) (v : Value) (w : World) (hv : IsInts w .i64 v l) :
    Calls Try.prog 61 #[.int .i64 n, v] w fun e W => e = .returned (.agg #[v, .int .i64 n]) ∧ Ext w W := by
  obtain ⟨sa, cap, rfl, h1, h2, -⟩ := hv.spec
  clear hv
  go_enter Try.func61, Try.ntmps61
  go_wp2_with fail
  refine bodyPost_ret (v := .agg #[.slice sa l.length cap, .int .i64 n]) (by simp [results, Try.results61, go_sem]) rfl ⟨rfl, (by repeat (first | exact Below.refl _ _ | refine Ext.al ?_ _ | refine Ext.dr ?_ | refine Ext.drN ?_ _ | refine Ext.gr ?_ _ | refine Ext.set ?_ (by simp) _ | (refine Ext.trans' ?_ (by assumption))))⟩
set_option maxRecDepth 100000 in
set_option maxHeartbeats 1000000 in
theorem intsL_any (s t : List Int) (sv tv : Value) (w : World) (hs : IsInts w .i64 sv s) (ht : IsInts w .i64 tv t) :
    Calls Try.prog 24 #[sv, tv] w fun e W => e = .returned (.bool (decide (s = t))) ∧ Ext w W := by
  obtain ⟨sa, cap, rfl, h1, h2, -⟩ := hs.spec
  obtain ⟨ta, tcap, rfl, h3, h4, -⟩ := ht.spec
  have HS := Lib.hid hs
  have HT := Lib.hid ht
  clear hs ht
  go_enter Try.func24, Try.ntmps24
  by_cases hl : s.length = t.length
  rotate_left
  · have hd : ((s.length : Int) != (t.length : Int)) = true := by rw [bne_iff_ne]; omega
    have hd2 : (s.length != t.length) = true := by rw [bne_iff_ne]; exact hl
    have HL := Lib.hid hl
    clear hl
    go_wp2_with fail
    go_ret
    refine ⟨?_, Below.refl _ _⟩
    rw [decide_eq_false fun h => HL.out (by rw [h])]
    rfl
  have hd : ((s.length : Int) != (t.length : Int)) = false := by rw [bne_eq_false_iff_eq]; omega
  have hd2 : (s.length != t.length) = false := by rw [bne_eq_false_iff_eq]; exact hl
  have HLL := Lib.hid hl
  clear hl
  go_wp2_with fail
  go_loopw [5] (fun i W => ∃ k : Nat, k ≤ s.length ∧ i = .int .i64 k ∧ (∀ j, j < k → gt s j = gt t j) ∧ Ext w W) (fun i _ => s.length - (intOf i).toNat)
  case atStart => exact ⟨0, by omega, rfl, fun j h => by omega, Below.refl _ _⟩
  case round =>
    obtain ⟨k, hk, rfl, hok, hE⟩ := hrel
    have HOK := Lib.hid hok
    have HE := Lib.hid hE
    by_cases hlt : k < s.length
    · have hki : (k : Int) < (s.length : Int) := by omega
      have hkt : k < t.length := by rw [← HLL.out]; exact hlt
      have hkti : (k : Int) < (t.length : Int) := by omega
      obtain ⟨b, off, rfl, hz1, HC⟩ := HS.out.at_all (by omega)
      obtain ⟨b2, off2, rfl, hz2, HC2⟩ := HT.out.at_all (by omega)
      have d0 := HC wr hE k hlt
      have d1 := HC2 wr hE k hkt
      obtain ⟨x, hx⟩ : ∃ x, x = gt s k := ⟨_, rfl⟩
      obtain ⟨y, hy⟩ : ∃ y, y = gt t k := ⟨_, rfl⟩
      rw [← hx] at d0
      rw [← hy] at d1
      have HX := Lib.hid hx
      have HY := Lib.hid hy
      clear hE HC HC2 hx hy hok
      by_cases hxy : x = y
      · subst hxy
        have hd : (x != x) = false := by simp
        go_upto_region 6 with (fail)
        go_quiet (fail)
        go_wp2_with fail
        go_roundw
        case rel =>
          refine ⟨k + 1, by omega, by go_num, fun j hj => ?_, HE.out.drN _⟩
          by_cases e : j < k
          · exact HOK.out j e
          · obtain rfl : j = k := by omega
            rw [← HX.out, ← HY.out]
        case measure => simp [intOf]; omega
      · have hd : (x != y) = true := by simpa using hxy
        have HXY := Lib.hid hxy
        clear hxy
        go_upto_region 6 with (fail)
        go_quiet (fail)
        go_wp2_with fail
        go_ret
        refine ⟨?_, HE.out.drN _⟩
        rw [decide_eq_false fun h => HXY.out (by rw [HX.out, HY.out, h])]
        rfl
    · have hkl : k = s.length := by omega
      have hki : ¬ ((k : Int) < (s.length : Int)) := by omega
      have hst : s = t := getD_ext HLL.out fun i hi => by have := hok i (by omega); exact this
      have HG := Lib.hid hst
      clear hok hE hkl hst
      go_wp2_with fail
      go_ret
      refine ⟨?_, HE.out⟩
      rw [decide_eq_true HG.out]; rfl
end Go.Proofs.Ytndgaklcnhoddaa
