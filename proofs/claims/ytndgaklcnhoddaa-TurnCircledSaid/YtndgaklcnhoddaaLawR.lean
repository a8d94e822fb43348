/-
  The walk of the statements' function Row: some visits.
-/
import Derived.Test.YtndgaklcnhoddaaLawB
namespace Go.Proofs.Ytndgaklcnhoddaa
open Go.RowKit Go.Shelf
/-- some visits, in memory of their own -/
def RetWins (ks : List Int) (n : Nat) (w : World) (e : Ending) (W : World) : Prop := ∃ r row, e = .returned r ∧ Ext w W ∧ IsInts W .i64 r row ∧ WinL ks row ∧ row.length = n
set_option maxRecDepth 100000 in
set_option maxHeartbeats 2000000 in
theorem rowL_any (ks bs : List Int) (kv bv : Value) (w : World) (hv : IsInts w .i64 kv ks) (hb : IsInts w .u8 bv bs) (h8 : ∀ x ∈ bs, 0 ≤ x ∧ x ≤ 255) (h60 : bs.length ≤ 60) (v : TVal ks) :
    Calls Try.prog 53 #[.agg #[kv], bv] w (RetWins ks bs.length w) := by
  obtain ⟨sa, cap, rfl, h1, h2, -⟩ := hv.spec
  obtain ⟨ba, bcap, rfl, h3, h4, -⟩ := hb.spec
  have HV := Lib.hid hv
  have HB0 := Lib.hid hb
  have H8 := Lib.hid h8
  have n1 := v.n1
  have n5 := v.n5
  clear hv hb v h8
  go_enter Try.func53, Try.ntmps53
  go_upto_region 1 with (fail)
  obtain ⟨W0, hW0⟩ : ∃ W0, W0 = w.alloc (.cells #[.slice sa ks.length cap] 24) := ⟨_, rfl⟩
  have hE : Ext w W0 := by rw [hW0]; exact (by repeat (first | exact Below.refl _ _ | refine Ext.al ?_ _ | refine Ext.dr ?_ | refine Ext.drN ?_ _ | refine Ext.gr ?_ _ | refine Ext.set ?_ (by simp) _ | (refine Ext.trans' ?_ (by assumption))))
  have k0 : W0.cell? ⟨w.heap.size, 0, none⟩ = some (.slice sa ks.length cap) := by rw [hW0]; simp [go_sem]
  have hz : w.heap.size < W0.heap.size := World.block_lt_of_cell? _ _ k0
  have HS := Lib.hid (HV.out.ext hE)
  have HW := Lib.hid hE
  rw [← hW0]
  clear hW0 HV
  have HB := Lib.hid (HB0.out.ext hE)
  clear hE HB0
  go_wp2_with fail
  go_loopw [5, 6] (fun ov iv W => ∃ (k : Nat) (row : List Int), k ≤ bs.length ∧ iv = .int .i64 k ∧ row.length = k ∧ WinL ks row ∧ Owns W W0.heap.size 3 1 ov (row.map iRow) ∧ Ext W0 W) (fun _ iv _ => bs.length - (intOf iv).toNat)
  case atStart => exact ⟨0, [], by omega, rfl, rfl, fun x hx => by simp at hx, Owns.nil _ _ _ _, Below.refl _ _⟩
  case round =>
    obtain ⟨k, row, hk, rfl, hlen, hwin, hown, hE⟩ := hrel
    obtain ⟨oa, on, oc, rfl⟩ := hown.isSlice
    have HE := Lib.hid hE
    have HOWN := Lib.hid hown
    have HWIN := Lib.hid hwin
    have HLEN := Lib.hid hlen
    have k1 := cell_ext hE k0
    have hz2 := World.block_lt_of_cell? _ _ k1
    simp only at hz2
    by_cases hlt : k < bs.length
    · have hki : (k : Int) < (bs.length : Int) := by omega
      obtain ⟨bb, bo, rfl, hbz, hbc⟩ := HB.out.at_allK (by omega)
      have c0 := hbc wr hE k hlt
      have hx8 := gt_u8 H8.out hlt
      obtain ⟨x, hx⟩ : ∃ x, x = gt bs k := ⟨_, rfl⟩
      rw [← hx] at c0 hx8
      have hcz := World.block_lt_of_cell? _ _ c0
      simp only at hcz
      have hnn : ((ks.length : Int) == 0) = false := by rw [beq_eq_false_iff_ne]; omega
      have hnn2 : ¬ ((ks.length : Int) = 0) := by omega
      have hnn3 : ¬ ks = [] := fun h => by rw [h] at n1; simp at n1
      obtain ⟨y, hy⟩ : ∃ y, y = x % (ks.length : Int) := ⟨_, rfl⟩
      have hy0 := Int.emod_nonneg x (show (ks.length : Int) ≠ 0 by omega)
      have hy1 := Int.emod_lt_of_pos x (show 0 < (ks.length : Int) by omega)
      rw [← hy] at hy0 hy1
      have hw1 : IntKind.i64.wrap x = x := IntWalk.i64_in _ (by omega)
      have hw3 : IntKind.i64.wrap y = y := IntWalk.i64_in _ (by omega)
      have hyt : Int.tmod x (ks.length : Int) = y := by rw [hy]; exact Int.tmod_eq_emod_of_nonneg (by omega)
      have hlenO : (row.map iRow).length + [iRow y].length ≤ 1000000 := by rw [List.length_map]; show _ + 1 ≤ _; omega
      have HLO := Lib.hid hlenO
      have hsz := hE.size
      have HY0 := Lib.hid hy0
      have HY1 := Lib.hid hy1
      clear hown hE hwin hlen hbc hx hy hlenO
      go_wp2_with fail
      obtain ⟨Z, hZ⟩ : ∃ Z, Z = wr := ⟨_, rfl⟩
      subst hZ
      refine wp_region_rove_tail rfl rfl (by kernel_rfl) (W0.heap.size) (hsz)
        [sqV (.slice oa on oc),
         sqV (.slice (some ⟨bb, bo, none⟩) bs.length bcap),
         sqV (.int .i64 k),
         sqV (.pointer (some ⟨bb, bo + k, none⟩)),
         sqV (.int .u8 x),
         sqV (.int .i64 x),
         sqV (.pointer (some ⟨w.heap.size, 0, none⟩)),
         sqV (.slice sa ks.length cap),
         sqV (.int .i64 ks.length),
         sqV (.int .i64 y),
         sqW (fun v W => ∃ b, v = .slice (some ⟨b, 0, none⟩) 1 1 ∧ RowsAt W 1 b 0 [iRow y]) (fun _ _ _ ⟨b, h1, h2⟩ e => ⟨b, h1, h2.ext e⟩),
         sqW (fun v W => Owns W W0.heap.size 3 1 v ((row ++ [y]).map iRow)) (fun _ _ _ h e => h.ext e)]
        [true, true, true, true, true, true, true, true, true, true, false, false] [false, false, false, false, false, false, false, false, false, false, false, true] [true, true, true, true, true, true, true, true, true, true, false, true] [true, true, true, true, true, true, true, true, true, true, true, true]
        (by kernel_rfl) (by kernel_rfl) (by decide +kernel) (by decide +kernel) (by decide +kernel) rfl ⟨rfl, rfl⟩ ⟨?s0, ?s1, ?s2, ?s3, ?s4, ?s5, ?s6, ?s7, ?s8, ?s9, ?s10, ?s11, trivial⟩ [some 13, some 14, some 15, some 16, some 17, some 18, some 19, some 20, some 21, some 22, some 23, some 24] rfl rfl ?send
      case s0 =>
        intro val ρ W hE hz hd hA hx
        have o0 : ρ (.tmp 5) = .slice oa on oc := hA.old 5 (by decide)
        clear hd
        exact runq_val (W' := W) (by simp [execOp, o0, go_sem]) (Below.refl _ _) rfl
      case s1 =>
        intro val ρ W hE hz hd hA hx
        have o0 : ρ (.tmp 1) = .slice (some ⟨bb, bo, none⟩) bs.length bcap := hA.old 1 (by decide)
        clear hd
        exact runq_val (W' := W) (by simp [execOp, o0, go_sem]) (Below.refl _ _) rfl
      case s2 =>
        intro val ρ W hE hz hd hA hx
        have o0 : ρ (.tmp 6) = .int .i64 k := hA.old 6 (by decide)
        clear hd
        exact runq_val (W' := W) (by simp [execOp, o0, go_sem]) (Below.refl _ _) rfl
      case s3 =>
        intro val ρ W hE hz hd hA hx
        have d1 : ρ (.tmp 14) = .slice (some ⟨bb, bo, none⟩) bs.length bcap := (hA.dep 1 (by decide) 14 rfl).trans (hd 1 (by decide))
        have d2 : ρ (.tmp 15) = .int .i64 k := (hA.dep 2 (by decide) 15 rfl).trans (hd 2 (by decide))
        clear hd
        exact runq_val (W' := W) (by simp [execOp, d1, d2, hki, go_sem]) (Below.refl _ _) rfl
      case s4 =>
        intro val ρ W hE hz hd hA hx
        have d3 : ρ (.tmp 16) = .pointer (some ⟨bb, bo + k, none⟩) := (hA.dep 3 (by decide) 16 rfl).trans (hd 3 (by decide))
        have f_c0 := cell_ext (hx (by decide)) c0
        clear hd
        exact runq_val (W' := W) (by simp [execOp, d3, f_c0, go_sem]) (Below.refl _ _) rfl
      case s5 =>
        intro val ρ W hE hz hd hA hx
        have d4 : ρ (.tmp 17) = .int .u8 x := (hA.dep 4 (by decide) 17 rfl).trans (hd 4 (by decide))
        clear hd
        exact runq_val (W' := W) (by simp [execOp, d4, hw1, go_sem]) (Below.refl _ _) rfl
      case s6 =>
        intro val ρ W hE hz hd hA hx
        have o0 : ρ (.tmp 2) = .pointer (some ⟨w.heap.size, 0, none⟩) := hA.old 2 (by decide)
        clear hd
        exact runq_val (W' := W) (by simp [execOp, o0, go_sem]) (Below.refl _ _) rfl
      case s7 =>
        intro val ρ W hE hz hd hA hx
        have d6 : ρ (.tmp 19) = .pointer (some ⟨w.heap.size, 0, none⟩) := (hA.dep 6 (by decide) 19 rfl).trans (hd 6 (by decide))
        have f_k1 := cell_ext (hx (by decide)) k1
        clear hd
        exact runq_val (W' := W) (by simp [execOp, d6, f_k1, go_sem]) (Below.refl _ _) rfl
      case s8 =>
        intro val ρ W hE hz hd hA hx
        have d7 : ρ (.tmp 20) = .slice sa ks.length cap := (hA.dep 7 (by decide) 20 rfl).trans (hd 7 (by decide))
        clear hd
        exact runq_val (W' := W) (by simp [d7, go_sem]) (Below.refl _ _) rfl
      case s9 =>
        intro val ρ W hE hz hd hA hx
        have d5 : ρ (.tmp 18) = .int .i64 x := (hA.dep 5 (by decide) 18 rfl).trans (hd 5 (by decide))
        have d8 : ρ (.tmp 21) = .int .i64 ks.length := (hA.dep 8 (by decide) 21 rfl).trans (hd 8 (by decide))
        clear hd
        exact runq_val (W' := W) (by simp [execOp, d5, d8, hyt, hnn3, go_sem]) (Below.refl _ _) rfl
      case s10 =>
        intro val ρ W hE hz hd hA hx
        have d9 : ρ (.tmp 22) = .int .i64 y := (hA.dep 9 (by decide) 22 rfl).trans (hd 9 (by decide))
        clear hd
        exact runq_val (v := .slice (some ⟨W.heap.size, 0, none⟩) 1 1) (W' := W.alloc (.cells #[.int .i64 y] 3)) (by simp [execOp, d9, go_sem]) (by exact (by repeat (first | exact Below.refl _ _ | refine Ext.al ?_ _ | refine Ext.dr ?_ | refine Ext.drN ?_ _ | refine Ext.gr ?_ _ | refine Ext.set ?_ (by simp) _ | (refine Ext.trans' ?_ (by assumption))))) ⟨_, rfl, newRow _ (iRow y) _⟩
      case s11 =>
        intro val ρ W hE hz hd hA hx
        have hW := hx (by decide)
        have d0 : ρ (.tmp 13) = .slice oa on oc := (hA.dep 0 (by decide) 13 rfl).trans (hd 0 (by decide))
        obtain ⟨b, e10, h10⟩ : ∃ b, val 10 = .slice (some ⟨b, 0, none⟩) 1 1 ∧ RowsAt W 1 b 0 [iRow y] := hd 10 (by decide)
        have d10 : ρ (.tmp 23) = .slice (some ⟨b, 0, none⟩) 1 1 := (hA.dep 10 (by decide) 23 rfl).trans e10
        have ho := HOWN.out.ext hW
        obtain ⟨v', w', hrun, h2, h3, h4⟩ := app_at elInt 22 W0.heap.size ho b 0 1 [iRow y] (by simp [iRow]) h10 (by simp [iRow, Value.oneCell']) HLO.out (by omega)
        exact runq_append (.tmp 13) (.tmp 23) rfl rfl _ _ d0 d10 hrun (ho.keptBelow (by omega) h3) (by rw [List.map_append]; exact h2)
      case send =>
        intro val W hE hzz hv
        obtain ⟨-, -, -, -, -, -, -, -, -, -, -, h11, -⟩ := hv
        replace h11 : Owns W W0.heap.size 3 1 (val 11) ((row ++ [y]).map iRow) := h11
        obtain ⟨va, vn, vc, e11⟩ := h11.isSlice
        rw [e11] at h11
        have HEN := Lib.hid (HE.out.trans hE)
        have H11 := Lib.hid h11
        simp only [putD, e11]
        go_frame
        clear e11 h11 hE hzz
        go_wp2_with fail
        go_roundw
        case rel =>
          refine ⟨k + 1, row ++ [y], by omega, by go_num, by simp [HLEN.out], fun z hz => ?_, H11.out, HEN.out⟩
          rcases List.mem_append.1 hz with h | h
          · exact HWIN.out z h
          · have e : z = y := by simpa using h
            rw [e]
            exact ⟨HY0.out, HY1.out⟩
        case measure => simp [intOf]; omega
    · have hki : ¬ ((k : Int) < (bs.length : Int)) := by omega
      clear hown hE hwin hlen
      go_wp2_with fail
      go_ret
      exact ⟨_, row, rfl, HW.out.trans' HE.out, HOWN.out.oneInts, HWIN.out, by rw [HLEN.out]; omega⟩
/-- which of two rows comes first -/
def brel (a b : List Int) (k : Nat) : Prop := ∀ i, i < k → gt a i = gt b i
end Go.Proofs.Ytndgaklcnhoddaa
