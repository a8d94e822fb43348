/-
  The walks of the reference's IsSafe, bound and Rows.
  The walk of the reference's Rows.
-/
import Derived.Test.YtndgaklcnhoddaaRefK
namespace Go.Proofs.Ytndgaklcnhoddaa
open Go.RowKit Go.Shelf
/-- what Rows returns, as a list -/
def rowsL (ks : List Int) (rows : Int → Int) : List Int := (List.range (nSt ks)).map fun (i : Nat) => rows i
theorem rowsL_len (ks : List Int) (rows : Int → Int) : (rowsL ks rows).length = nSt ks := by simp [rowsL]
theorem rowsL_at (ks : List Int) (rows : Int → Int) {i : Nat} (h : i < nSt ks) : gt (rowsL ks rows) i = rows i := by
  rw [← gt_get (by rw [rowsL_len]; exact h)]
  simp [rowsL]
theorem num_nat {ks s : List Int} (v : TVal ks) (hst : isSt ks s = true) : ∃ X : Nat, numS ks s = (X : Int) ∧ X < nSt ks := by
  have h := numS_bd v.nn hst
  have hN := nSt_eq v
  exact ⟨(numS ks s).toNat, by omega, by omega⟩
set_option maxRecDepth 100000 in
set_option maxHeartbeats 2000000 in
theorem isSafeR_any (ks s : List Int) (rows : Int → Int) (kv rv sv : Value) (w : World) (hv : IsInts w .i64 kv ks) (hr : IsInts w .i64 rv (rowsL ks rows)) (hl : IsInts w .i64 sv s) (v : TVal ks) (hst : isSt ks s = true) :
    Calls Try.prog 76 #[.agg #[kv], rv, sv] w fun e W => e = .returned (.bool (decide (rows (numS ks s) < 0))) ∧ Ext w W := by
  obtain ⟨X, hX, hXn⟩ := num_nat v hst
  obtain ⟨sa, cap, rfl, h1, h2, -⟩ := hv.spec
  obtain ⟨la, lcap, rfl, h3, h4, -⟩ := hl.spec
  have hL := rowsL_at ks rows hXn
  have hLl := rowsL_len ks rows
  obtain ⟨L, hLe⟩ : ∃ L, L = rowsL ks rows := ⟨_, rfl⟩
  rw [← hLe] at hr hL hLl
  have hXL : X < L.length := by rw [hLl]; exact hXn
  obtain ⟨ra, rcap, rfl, h5, h6, -⟩ := hr.spec
  have ci := fun W h1 h2 => indexR_any ks s (.slice sa ks.length cap) (.slice la s.length lcap) W h1 h2 v hst
  rw [hX] at ci ⊢
  rw [← hL]
  obtain ⟨y, hy⟩ : ∃ y, y = gt L X := ⟨_, rfl⟩
  have HY := Lib.hid hy
  have CI := Lib.hid ci
  have HV := Lib.hid hv
  have HL0 := Lib.hid hl
  have HR0 := Lib.hid hr
  have hXi : (X : Int) < (L.length : Int) := by omega
  clear hv hl hr v hst ci hX hL hLl hLe hy
  go_enter Try.func76, Try.ntmps76
  go_upto_region 1 with (fail)
  obtain ⟨W0, hW0⟩ : ∃ W0, W0 = w.alloc (.cells #[.slice sa ks.length cap] 24) := ⟨_, rfl⟩
  have hE : Ext w W0 := by rw [hW0]; exact (by repeat (first | exact Below.refl _ _ | refine Ext.al ?_ _ | refine Ext.dr ?_ | refine Ext.drN ?_ _ | refine Ext.gr ?_ _ | refine Ext.set ?_ (by simp) _ | (refine Ext.trans' ?_ (by assumption))))
  have k0 : W0.cell? ⟨w.heap.size, 0, none⟩ = some (.slice sa ks.length cap) := by rw [hW0]; simp [go_sem]
  have hz : w.heap.size < W0.heap.size := World.block_lt_of_cell? _ _ k0
  have HS := Lib.hid (HV.out.ext hE)
  have HW := Lib.hid hE
  rw [← hW0]
  clear hW0 HV
  have HL := Lib.hid (HL0.out.ext hE)
  have HR := Lib.hid (HR0.out.ext hE)
  clear hE HL0 HR0
  obtain ⟨b, off, rfl, hkz, HRC⟩ := HR.out.at_all (by omega)
  have RC := Lib.hid HRC
  clear HRC
  go_wp2_with fail
  refine (CI.out _ (HS.out.ext (by exact (by repeat (first | exact Below.refl _ _ | refine Ext.al ?_ _ | refine Ext.dr ?_ | refine Ext.drN ?_ _ | refine Ext.gr ?_ _ | refine Ext.set ?_ (by simp) _ | (refine Ext.trans' ?_ (by assumption)))))) (HL.out.ext (by exact (by repeat (first | exact Below.refl _ _ | refine Ext.al ?_ _ | refine Ext.dr ?_ | refine Ext.drN ?_ _ | refine Ext.gr ?_ _ | refine Ext.set ?_ (by simp) _ | (refine Ext.trans' ?_ (by assumption))))))).mono ?_
  rintro e W1 ⟨rfl, hE1⟩
  have c0 := RC.out W1 hE1 X hXL
  rw [← HY.out] at c0
  have HE1 := Lib.hid (HW.out.trans' hE1)
  clear hE1
  by_cases hn : y < 0
  · have hd : decide (y < 0) = true := decide_eq_true hn
    clear hn
    go_wp2_with fail
    go_ret
    exact ⟨ret_bool (by rw [← HY.out, hd]), HE1.out⟩
  · have hd : decide (y < 0) = false := decide_eq_false hn
    clear hn
    go_wp2_with fail
    go_ret
    exact ⟨ret_bool (by rw [← HY.out, hd]), HE1.out⟩
/-- what bound returns -/
def bndI : Option Int → Int
  | none => -1
  | some m => m
theorem nxN_full {ks : List Int} {i : Int} (h : fullP allW ks (stOf ks i) = true) : nxN ks i = [] := by
  unfold nxN nxS; rw [if_pos h]; rfl
theorem nxN_drop {ks : List Int} {i : Int} (h : fullP allW ks (stOf ks i) = false) {j : Nat} (hj : j < ks.length) : (nxN ks i).drop j = numS ks (visit (upP allW (stOf ks i)) j) :: (nxN ks i).drop (j + 1) := by
  have e : nxN ks i = (List.range ks.length).map fun w => numS ks (visit (upP allW (stOf ks i)) w) := by
    unfold nxN nxS; rw [h, if_neg (by simp), List.map_map]; rfl
  rw [e, List.drop_eq_getElem_cons (by simpa using hj)]
  simp
theorem nxN_end {ks : List Int} {i : Int} (_ : fullP allW ks (stOf ks i) = false) : (nxN ks i).drop ks.length = [] := by
  refine List.drop_of_length_le ?_
  exact nxN_len _
set_option maxRecDepth 100000 in
set_option maxHeartbeats 4000000 in
theorem boundR_any (ks : List Int) (rows : Int → Int) (i : Nat) (kv rv : Value) (w : World) (hv : IsInts w .i64 kv ks) (hr : IsInts w .i64 rv (rowsL ks rows)) (v : TVal ks) (hi : i < nSt ks) (hrb : ∀ x : Int, 0 ≤ x → x < prodK ks → -1 ≤ rows x ∧ rows x < 1000) :
    Calls Try.prog 101 #[.agg #[kv], rv, .int .i64 i] w fun e W => e = .returned (.int .i64 (bndI (bndL rows 0 (nxN ks i)))) ∧ Ext w W := by
  obtain ⟨sa, cap, rfl, h1, h2, -⟩ := hv.spec
  have hLl := rowsL_len ks rows
  have hLa := fun X h => rowsL_at ks rows (i := X) h
  obtain ⟨L, hLe⟩ : ∃ L, L = rowsL ks rows := ⟨_, rfl⟩
  rw [← hLe] at hr hLl hLa
  obtain ⟨ra, rcap, rfl, h5, h6, -⟩ := hr.spec
  have hN := nSt_le v
  have hNe := nSt_eq v
  have HV := Lib.hid hv
  have HR0 := Lib.hid hr
  have V := Lib.hid v
  have n1 := v.n1
  have n5 := v.n5
  have HI := Lib.hid (st_st v.nn (n := (i : Int)))
  have HLL := Lib.hid hLl
  have HLA := Lib.hid hLa
  have HRB := Lib.hid hrb
  have HNE := Lib.hid hNe
  clear hv hr v hLl hLa hLe hrb hNe
  go_enter Try.func101, Try.ntmps101
  go_upto_region 1 with (fail)
  obtain ⟨W0, hW0⟩ : ∃ W0, W0 = w.alloc (.cells #[.slice sa ks.length cap] 24) := ⟨_, rfl⟩
  have hE : Ext w W0 := by rw [hW0]; exact (by repeat (first | exact Below.refl _ _ | refine Ext.al ?_ _ | refine Ext.dr ?_ | refine Ext.drN ?_ _ | refine Ext.gr ?_ _ | refine Ext.set ?_ (by simp) _ | (refine Ext.trans' ?_ (by assumption))))
  have k0 : W0.cell? ⟨w.heap.size, 0, none⟩ = some (.slice sa ks.length cap) := by rw [hW0]; simp [go_sem]
  have hz : w.heap.size < W0.heap.size := World.block_lt_of_cell? _ _ k0
  have HS := Lib.hid (HV.out.ext hE)
  have HW := Lib.hid hE
  rw [← hW0]
  clear hW0 HV
  have HR := Lib.hid (HR0.out.ext hE)
  clear hE HR0
  obtain ⟨b, off, rfl, hkz, HRC⟩ := HR.out.at_all (by have := HLL.out; omega)
  have RC := Lib.hid HRC
  clear HRC
  go_upto_region 1 with (fail)
  obtain ⟨ok, hok⟩ : ∃ ok, ok = !fullP allW ks (stOf ks (i : Int)) := ⟨_, rfl⟩
  obtain ⟨XL, hXL⟩ : ∃ XL, XL = (if fullP allW ks (stOf ks (i : Int)) then [] else upP allW (stOf ks (i : Int))) := ⟨_, rfl⟩
  have HOKX := Lib.hid hok
  have HXLX := Lib.hid hXL
  clear hok hXL
  refine wp_region_rove (W0.heap.size) (Nat.le_refl _)
    [sqV (.agg #[.slice sa ks.length cap]),
     sqV (.agg #[.slice sa ks.length cap]),
     sqV (.int .i64 i),
     sqW (fun v W => IsInts W .i64 v (stOf ks (i : Int))) (fun _ _ _ h e => IsInts.ext e h),
     sqV (.agg #[.slice sa ks.length cap]),
     sqW (fun v W => IsInts W .i64 v (upL ks.length)) (fun _ _ _ h e => IsInts.ext e h),
     sqW (fun v W => ∃ r, v = .tuple #[r, .bool ok] ∧ IsInts W .i64 r XL) (fun _ _ _ ⟨r, h1, h2⟩ e => ⟨r, h1, IsInts.ext e h2⟩),
     sqW (fun v W => ∃ r, v = .tuple #[r, .bool ok] ∧ IsInts W .i64 r XL) (fun _ _ _ ⟨r, h1, h2⟩ e => ⟨r, h1, IsInts.ext e h2⟩),
     sqW (fun v W => IsInts W .i64 v XL) (fun _ _ _ h e => IsInts.ext e h),
     sqV (.bool ok),
     sqW (fun v W => IsInts W .i64 v XL) (fun _ _ _ h e => IsInts.ext e h),
     sqV (.bool ok)]
    [true, true, true, false, true, false, false, false, false, true, false, true] [false, false, false, false, false, false, false, false, false, false, false, false] [true, true, true, true, true, true, true, true, true, true, true, true] [true, true, true, true, true, true, true, true, true, true, true, true]
    (by kernel_rfl) (by kernel_rfl) (by decide +kernel) (by decide +kernel) (by decide +kernel) rfl ⟨rfl, rfl⟩ ⟨?s0, ?s1, ?s2, ?s3, ?s4, ?s5, ?s6, ?s7, ?s8, ?s9, ?s10, ?s11, trivial⟩ [some 13, some 14, some 15, some 16, some 17, some 18, some 19, some 12, some 20, some 21, some 7, some 8] rfl rfl ?send
  case s0 =>
    intro val ρ W hE hz hd hA hx
    have o0 : ρ (.tmp 3) = .pointer (some ⟨w.heap.size, 0, none⟩) := hA.old 3 (by decide)
    have f_k0 := cell_below hE (by simp only; omega) k0
    clear hd
    exact runq_val (W' := W) (by simp [execOp, o0, f_k0, go_sem]) (Below.refl _ _) rfl
  case s1 =>
    intro val ρ W hE hz hd hA hx
    have o0 : ρ (.tmp 3) = .pointer (some ⟨w.heap.size, 0, none⟩) := hA.old 3 (by decide)
    have f_k0 := cell_below hE (by simp only; omega) k0
    clear hd
    exact runq_val (W' := W) (by simp [execOp, o0, f_k0, go_sem]) (Below.refl _ _) rfl
  case s2 =>
    intro val ρ W hE hz hd hA hx
    have o0 : ρ (.tmp 2) = .int .i64 i := hA.old 2 (by decide)
    clear hd
    exact runq_val (W' := W) (by simp [execOp, o0, go_sem]) (Below.refl _ _) rfl
  case s4 =>
    intro val ρ W hE hz hd hA hx
    have o0 : ρ (.tmp 3) = .pointer (some ⟨w.heap.size, 0, none⟩) := hA.old 3 (by decide)
    have f_k0 := cell_below hE (by simp only; omega) k0
    clear hd
    exact runq_val (W' := W) (by simp [execOp, o0, f_k0, go_sem]) (Below.refl _ _) rfl
  case s11 =>
    intro val ρ W hE hz hd hA hx
    have d9 : ρ (.tmp 21) = .bool ok := (hA.dep 9 (by decide) 21 rfl).trans (hd 9 (by decide))
    clear hd
    exact runq_val (W' := W) (by simp [execOp, d9, go_sem]) (Below.refl _ _) rfl
  case s5 =>
    intro val ρ W hE hz hd hA hx
    have d4 : ρ (.tmp 17) = .agg #[.slice sa ks.length cap] := (hA.dep 4 (by decide) 17 rfl).trans (hd 4 (by decide))
    clear hd
    refine runq_call 56 _ _ rfl #[.agg #[.slice sa ks.length cap]] (hA.func _) (by simp [d4]) (fun args W => Try.call56 args W) ((allR_any ks _ W (HS.out.ext hE) (by have := (V).out.n5; omega)).mono ?_)
    rintro e w' ⟨v, rfl, hb, hi⟩
    exact ⟨_, rfl, hb, hi⟩
  case s6 =>
    intro val ρ W hE hz hd hA hx
    have d0 : ρ (.tmp 13) = .agg #[.slice sa ks.length cap] := (hA.dep 0 (by decide) 13 rfl).trans (hd 0 (by decide))
    have qs : IsInts W .i64 (val 3) (stOf ks (i : Int)) := hd 3 (by decide)
    have ds : ρ (.tmp 16) = val 3 := hA.dep 3 (by decide) 16 rfl
    have qa : IsInts W .i64 (val 5) (upL ks.length) := hd 5 (by decide)
    have da : ρ (.tmp 18) = val 5 := hA.dep 5 (by decide) 18 rfl
    clear hd
    refine runq_call 49 _ _ rfl #[.agg #[.slice sa ks.length cap], val 3, val 5] (hA.func _) (by simp [d0, ds, da]) (fun args W => Try.call49 args W) ((pulledA_any ks (stOf ks (i : Int)) _ _ _ W (HS.out.ext hE) qs qa (V).out (HI).out).mono ?_)
    rintro e w' ⟨v, rfl, hb, hi⟩
    exact ⟨_, rfl, hb, v, by rw [HOKX.out], by rw [HXLX.out]; exact hi⟩
  case s7 =>
    intro val ρ W hE hz hd hA hx
    obtain ⟨r, h1, h2⟩ : ∃ r, val 6 = .tuple #[r, .bool ok] ∧ IsInts W .i64 r XL := hd 6 (by decide)
    have dd : ρ (.tmp 19) = .tuple #[r, .bool ok] := (hA.dep 6 (by decide) 19 rfl).trans h1
    exact runq_val (W' := W) (v := .tuple #[r, .bool ok]) (by simp [execOp, dd, go_sem]) (Below.refl _ _) ⟨r, rfl, h2⟩
  case s8 =>
    intro val ρ W hE hz hd hA hx
    obtain ⟨r, h1, h2⟩ : ∃ r, val 7 = .tuple #[r, .bool ok] ∧ IsInts W .i64 r XL := hd 7 (by decide)
    have dd : ρ (.tmp 12) = .tuple #[r, .bool ok] := (hA.dep 7 (by decide) 12 rfl).trans h1
    exact runq_val (W' := W) (v := r) (by simp [execOp, dd, go_sem]) (Below.refl _ _) h2
  case s9 =>
    intro val ρ W hE hz hd hA hx
    obtain ⟨r, h1, h2⟩ : ∃ r, val 7 = .tuple #[r, .bool ok] ∧ IsInts W .i64 r XL := hd 7 (by decide)
    have dd : ρ (.tmp 12) = .tuple #[r, .bool ok] := (hA.dep 7 (by decide) 12 rfl).trans h1
    exact runq_val (W' := W) (v := .bool ok) (by simp [execOp, dd, go_sem]) (Below.refl _ _) rfl
  case s10 =>
    intro val ρ W hE hz hd hA hx
    have qx : IsInts W .i64 (val 8) XL := hd 8 (by decide)
    have dx : ρ (.tmp 20) = val 8 := hA.dep 8 (by decide) 20 rfl
    exact runq_val (W' := W) (v := val 8) (by simp [execOp, dx, go_sem]) (Below.refl _ _) qx
  case s3 =>
    intro val ρ W hE hz hd hA hx
    have d1 : ρ (.tmp 14) = .agg #[.slice sa ks.length cap] := (hA.dep 1 (by decide) 14 rfl).trans (hd 1 (by decide))
    have d2 : ρ (.tmp 15) = .int .i64 i := (hA.dep 2 (by decide) 15 rfl).trans (hd 2 (by decide))
    clear hd
    refine runq_call 78 _ _ rfl #[.agg #[.slice sa ks.length cap], .int .i64 i] (hA.func _) (by simp [d1, d2]) (fun args W => Try.call78 args W) ((stateR_any ks i _ W (HS.out.ext hE) V.out (by omega)).mono ?_)
    rintro e w' ⟨v, rfl, hb, hi⟩
    exact ⟨_, rfl, hb, hi⟩
  case send =>
    intro val WW hE hzz hv
    obtain ⟨-, -, -, -, -, -, -, -, -, -, q8, q9, -⟩ := hv
    have q9' : val 11 = .bool ok := q9
    replace q8 : IsInts WW .i64 (val 10) XL := q8
    obtain ⟨X8, hX8⟩ : ∃ X8, X8 = val 10 := ⟨_, rfl⟩
    rw [← hX8] at q8
    simp only [putD, q9', ← hX8]
    go_frame
    clear q9 q9' hX8 hzz
    obtain ⟨xa, xc, rfl, -, -, -⟩ := q8.spec
    have HX8 := Lib.hid q8
    clear q8
    have hEW : Ext W0 WW := hE
    have HEW := Lib.hid (HW.out.trans' hEW)
    have HSW := Lib.hid (HS.out.ext hEW)
    have HEX := Lib.hid hEW
    have k2 := cell_ext hEW k0
    have hz2 := World.block_lt_of_cell? _ _ k2
    simp only at hz2
    clear hE hEW
    cases ok
    · have hf : fullP allW ks (stOf ks (i : Int)) = true := by have := HOKX.out; cases h : fullP allW ks (stOf ks (i : Int)) <;> simp [h] at this ⊢
      have HF := Lib.hid (nxN_full hf)
      clear hf
      go_wp2_with fail
      go_loopw [9, 10] (fun n i W => n = .int .i64 0 ∧ i = .int .i64 0 ∧ Ext WW W) (fun _ _ _ => 0)
      case atStart => exact ⟨rfl, rfl, Below.refl _ _⟩
      case round =>
        obtain ⟨rfl, rfl, hE3⟩ := hrel
        have HE3 := Lib.hid hE3
        clear hE3
        go_wp2_with fail
        go_ret
        exact ⟨ret_int (by rw [HF.out]; rfl), HEW.out.trans' HE3.out⟩
    · have hf : fullP allW ks (stOf ks (i : Int)) = false := by have := HOKX.out; cases h : fullP allW ks (stOf ks (i : Int)) <;> simp [h] at this ⊢
      have hxl : XL = upP allW (stOf ks (i : Int)) := by rw [HXLX.out, hf]; rfl
      have hdr := fun j (hj : j < ks.length) => nxN_drop hf hj
      have hen := nxN_end hf
      have hxs := up_st HI.out hf
      rw [← hxl] at hdr hxs
      obtain ⟨l, hl⟩ : ∃ l, l = nxN ks (i : Int) := ⟨_, rfl⟩
      rw [← hl] at hdr hen
      have HLE := Lib.hid hl
      have HDR := Lib.hid hdr
      have HEN := Lib.hid hen
      have HXS := Lib.hid hxs
      have hxll := isSt_len hxs
      have hx5 : XL.length ≤ 1000 := by omega
      have HXLL := Lib.hid hxll
      clear hf hxl hdr hen hxs hl HXLX hxll
      go_wp2_with fail
      go_loopw [9, 10] (fun nv iv W => ∃ (j : Nat) (m : Int), j ≤ ks.length ∧ nv = .int .i64 m ∧ iv = .int .i64 j ∧ 0 ≤ m ∧ m ≤ 1000 ∧ bndL rows 0 l = bndL rows m (l.drop j) ∧ Ext WW W) (fun _ iv _ => ks.length - (intOf iv).toNat)
      case atStart => exact ⟨0, 0, by omega, rfl, rfl, by omega, by omega, by simp, Below.refl _ _⟩
      case round =>
        obtain ⟨j, m, hj, rfl, rfl, hm0, hm1, hm, hE3⟩ := hrel
        have k3 := cell_ext hE3 k2
        have hz3 := World.block_lt_of_cell? _ _ k3
        simp only at hz3
        have HE3 := Lib.hid hE3
        have HM := Lib.hid hm
        have HX9 := Lib.hid (HX8.out.ext hE3)
        have HS9 := Lib.hid (HSW.out.ext hE3)
        have hE9 := HEX.out.trans' hE3
        have HE9 := Lib.hid hE9
        clear hE3 hm
        by_cases hjl : j < ks.length
        · have hji : (j : Int) < (ks.length : Int) := by omega
          have hjx : j < XL.length := by rw [HXLL.out]; exact hjl
          have hvs : isSt ks (visit XL j) = true := visit_st HXS.out (fun i hi => by have := V.out.at_ i hi; omega) j
          obtain ⟨X, hX, hXn⟩ := num_nat V.out hvs
          have hXL : X < L.length := by rw [HLL.out]; exact hXn
          have hXi : (X : Int) < (L.length : Int) := by omega
          have d0 := RC.out wr hE9 X hXL
          rw [HLA.out X hXn] at d0
          have hdz := World.block_lt_of_cell? _ _ d0
          simp only at hdz
          have eb := HRB.out X (by omega) (by have := HNE.out; omega)
          have hst : bndL rows m (l.drop j) = if rows X < 0 then none else bndL rows (max m (rows X + 1)) (l.drop (j + 1)) := by
            rw [HDR.out j hjl, bndL, hX]
          obtain ⟨r, hr⟩ : ∃ r, r = rows X := ⟨_, rfl⟩
          rw [← hr] at d0 eb hst
          have HVS := Lib.hid hvs
          have HXE := Lib.hid hX
          have HST := Lib.hid hst
          clear hvs hX hst hr hE9
          go_upto_region 6 with (fail)
          obtain ⟨Z, hZ⟩ : ∃ Z, Z = wr := ⟨_, rfl⟩
          subst hZ
          refine wp_region_rove (Z.heap.size) (Nat.le_refl _)
            [sqV (.slice (some ⟨b, off, none⟩) L.length rcap),
             sqV (.agg #[.slice sa ks.length cap]),
             sqV (.slice xa XL.length xc),
             sqV (.int .i64 j),
             sqW (fun v W => IsInts W .i64 v (visit XL j)) (fun _ _ _ h e => IsInts.ext e h),
             sqV (.int .i64 X),
             sqV (.pointer (some ⟨b, off + X, none⟩)),
             sqV (.int .i64 r),
             sqV (.int .i64 r)]
            [true, true, true, true, false, true, true, true, true] [false, false, false, false, false, false, false, false, false] [true, true, true, true, true, true, true, true, true] [true, true, true, true, true, true, true, true, true]
            (by kernel_rfl) (by kernel_rfl) (by decide +kernel) (by decide +kernel) (by decide +kernel) rfl ⟨rfl, rfl⟩ ⟨?s0, ?s1, ?s2, ?s3, ?s4, ?s5, ?s6, ?s7, ?s8, trivial⟩ [some 32, some 33, some 34, some 35, some 36, some 37, some 38, some 39, some 11] rfl rfl ?send
          case s0 =>
            intro val ρ W hE hz hd hA hx
            have o0 : ρ (.tmp 1) = .slice (some ⟨b, off, none⟩) L.length rcap := hA.old 1 (by decide)
            clear hd
            exact runq_val (W' := W) (by simp [execOp, o0, go_sem]) (Below.refl _ _) rfl
          case s1 =>
            intro val ρ W hE hz hd hA hx
            have o0 : ρ (.tmp 3) = .pointer (some ⟨w.heap.size, 0, none⟩) := hA.old 3 (by decide)
            have f_k3 := cell_below hE (by simp only; omega) k3
            clear hd
            exact runq_val (W' := W) (by simp [execOp, o0, f_k3, go_sem]) (Below.refl _ _) rfl
          case s2 =>
            intro val ρ W hE hz hd hA hx
            have o0 : ρ (.tmp 7) = .slice xa XL.length xc := hA.old 7 (by decide)
            clear hd
            exact runq_val (W' := W) (by simp [execOp, o0, go_sem]) (Below.refl _ _) rfl
          case s3 =>
            intro val ρ W hE hz hd hA hx
            have o0 : ρ (.tmp 10) = .int .i64 j := hA.old 10 (by decide)
            clear hd
            exact runq_val (W' := W) (by simp [execOp, o0, go_sem]) (Below.refl _ _) rfl
          case s6 =>
            intro val ρ W hE hz hd hA hx
            have d0 : ρ (.tmp 32) = .slice (some ⟨b, off, none⟩) L.length rcap := (hA.dep 0 (by decide) 32 rfl).trans (hd 0 (by decide))
            have d5 : ρ (.tmp 37) = .int .i64 X := (hA.dep 5 (by decide) 37 rfl).trans (hd 5 (by decide))
            clear hd
            exact runq_val (W' := W) (by simp [execOp, d0, d5, hXi, go_sem]) (Below.refl _ _) rfl
          case s7 =>
            intro val ρ W hE hz hd hA hx
            have d6 : ρ (.tmp 38) = .pointer (some ⟨b, off + X, none⟩) := (hA.dep 6 (by decide) 38 rfl).trans (hd 6 (by decide))
            have f_d0 := cell_below hE (by simp only; omega) d0
            clear hd
            exact runq_val (W' := W) (by simp [execOp, d6, f_d0, go_sem]) (Below.refl _ _) rfl
          case s8 =>
            intro val ρ W hE hz hd hA hx
            have d7 : ρ (.tmp 39) = .int .i64 r := (hA.dep 7 (by decide) 39 rfl).trans (hd 7 (by decide))
            clear hd
            exact runq_val (W' := W) (by simp [execOp, d7, go_sem]) (Below.refl _ _) rfl
          case s4 =>
            intro val ρ W hE hz hd hA hx
            have d2 : ρ (.tmp 34) = .slice xa XL.length xc := (hA.dep 2 (by decide) 34 rfl).trans (hd 2 (by decide))
            have d3 : ρ (.tmp 35) = .int .i64 j := (hA.dep 3 (by decide) 35 rfl).trans (hd 3 (by decide))
            clear hd
            refine runq_call 50 _ _ rfl #[.slice xa XL.length xc, .int .i64 j] (hA.func _) (by simp [d2, d3]) (fun args W => Try.call50 args W) ((visitedR_any XL j _ W (HX9.out.ext hE) hjx hx5).mono ?_)
            rintro e w' ⟨v, rfl, hb, hi⟩
            exact ⟨_, rfl, hb, hi⟩
          case s5 =>
            intro val ρ W hE hz hd hA hx
            have d1 : ρ (.tmp 33) = .agg #[.slice sa ks.length cap] := (hA.dep 1 (by decide) 33 rfl).trans (hd 1 (by decide))
            have q4 : IsInts W .i64 (val 4) (visit XL j) := hd 4 (by decide)
            have d4 : ρ (.tmp 36) = val 4 := hA.dep 4 (by decide) 36 rfl
            clear hd
            refine runq_call 79 _ _ rfl #[.agg #[.slice sa ks.length cap], val 4] (hA.func _) (by simp [d1, d4]) (fun args W => Try.call79 args W) ((indexR_any ks (visit XL j) _ _ W (HS9.out.ext hE) q4 V.out HVS.out).mono ?_)
            rintro e w' ⟨rfl, hb⟩
            exact ⟨_, rfl, hb, by rw [HXE.out]; rfl⟩
          case send =>
            intro val WW2 hE hzz hv
            obtain ⟨-, -, -, -, -, -, -, -, q8, -⟩ := hv
            have q8' : val 8 = .int .i64 r := q8
            have HE4 := Lib.hid (HE3.out.trans' hE)
            simp only [putD, q8']
            go_frame
            clear q8 q8' hE hzz
            by_cases hneg : r < 0
            · have hd : decide (r < 0) = true := decide_eq_true hneg
              have HF := Lib.hid (HM.out.trans (HST.out.trans (if_pos hneg)))
              clear hneg
              go_wp2_with fail
              go_ret
              exact ⟨ret_int (by rw [← HLE.out, HF.out]; rfl), HEW.out.trans' HE4.out⟩
            · have hd : decide (r < 0) = false := decide_eq_false hneg
              have HF := Lib.hid (HM.out.trans (HST.out.trans (if_neg hneg)))
              have hr0 : 0 ≤ r := by omega
              have hmx : 0 ≤ max m (r + 1) ∧ max m (r + 1) ≤ 1000 := by omega
              clear hneg
              go_wp2_with fail
              go_roundw
              case rel => exact ⟨j + 1, max m (r + 1), by omega, by simp; split <;> omega, by go_num, hmx.1, hmx.2, HF.out, HE4.out⟩
              case measure => simp [intOf]; omega
        · have hjl2 : j = ks.length := by omega
          have hji : ¬ ((j : Int) < (ks.length : Int)) := by omega
          have hfin : bndL rows 0 l = some m := by rw [HM.out, hjl2, HEN.out]; rfl
          have HF := Lib.hid hfin
          clear hjl2 hfin hE9
          go_wp2_with fail
          go_ret
          exact ⟨ret_int (by rw [← HLE.out, HF.out]; rfl), HEW.out.trans' HE3.out⟩
end Go.Proofs.Ytndgaklcnhoddaa
namespace Go.Proofs.Ytndgaklcnhoddaa
open Go.RowKit Go.Shelf
theorem RowB.ints {W : World} {g cap : Nat} {ks : List Int} {rows : Int → Int} (h : RowB W g ks rows) (h1 : nSt ks ≤ cap) (h2 : cap ≤ 9223372036854775807) : IsInts W .i64 (.slice (some ⟨g, 0, none⟩) (nSt ks) cap) (rowsL ks rows) := by
  obtain ⟨cur, h3, h4⟩ := h
  have := IsInts.mk (w := W) (k := .i64) (l := rowsL ks rows) (b := g) (off := 0) (cap := cap) (by rw [rowsL_len]; exact h1) h2 fun i hi => by
    rw [rowsL_len] at hi
    rw [cell_of_row _ _ _ _ _ _ h3, Nat.zero_add, h4 i hi, gt_get (by rw [rowsL_len]; exact hi), rowsL_at ks rows hi]
  rwa [rowsL_len] at this
theorem RowB.cell {W : World} {g : Nat} {ks : List Int} {rows : Int → Int} (h : RowB W g ks rows) {i : Nat} (hi : i < nSt ks) : W.cell? ⟨g, i, none⟩ = some (.int .i64 (rows i)) := by
  obtain ⟨cur, h3, h4⟩ := h
  rw [cell_of_row _ _ _ _ _ _ h3, h4 i hi]
theorem RowB.free {W : World} {g : Nat} {ks : List Int} {rows : Int → Int} (h : RowB W g ks rows) (o : Nat) : W.frozen? ⟨g, o, none⟩ = false := by
  obtain ⟨cur, h3, h4⟩ := h
  simp [World.frozen?, h3]
/-- how many are not known -/
def negC (ks : List Int) (rows : Int → Int) : Nat := ((List.range (nSt ks)).filter fun (i : Nat) => decide (rows i < 0)).length
theorem negC_set {ks : List Int} {rows : Int → Int} {i : Nat} {m : Int} (hi : i < nSt ks) (h0 : rows i < 0) (hm : 0 ≤ m) : negC ks (fun x => if x = (i : Int) then m else rows x) < negC ks rows := by
  refine cnt_lt (rows := rows) (rows1 := fun x => if x = (i : Int) then m else rows x) (fun j h => ?_) hi h0 ?_
  · by_cases e : (j : Int) = (i : Int)
    · simp only [e, if_true] at h; omega
    · simpa only [e, if_false] using h
  · simp only [if_true]; omega
theorem boolOf_true : (match (Value.bool true) with | .bool b => b | _ => false) = true := rfl
theorem RowB.ext {W W' : World} {g : Nat} {ks : List Int} {rows : Int → Int} (h : RowB W g ks rows) (e : Ext W W') : RowB W' g ks rows := h.of_heap (e.block _ h.lt)
def isTrue : Value → Bool
  | .bool b => b
  | _ => false
theorem repl_iRow (n : Nat) : List.replicate n [Value.int .i64 (-1)] = (List.replicate n (-1 : Int)).map iRow := by
  rw [List.map_replicate]; rfl
theorem rowB_start {W : World} {B g n cap : Nat} {ks : List Int} (hn : n = nSt ks) (h : Owns W B 3 1 (.slice (some ⟨g, 0, none⟩) n cap) ((List.replicate (nSt ks) (-1 : Int)).map iRow)) : n ≤ cap ∧ cap ≤ 9223372036854775807 ∧ B ≤ g ∧ RowB W g ks (fun _ => -1) := by
  obtain ⟨h1, h2, h3, h4, cur, h5, h6, h7⟩ := h.numB
  refine ⟨h2, h3, h4, cur, h5, fun i hi => ?_⟩
  rw [h7 i (by omega)]
  unfold gt
  simp [hi]
set_option maxRecDepth 100000 in
set_option maxHeartbeats 8000000 in
theorem rowsR_any (ks : List Int) (kv : Value) (w : World) (hv : IsInts w .i64 kv ks) (v : TVal ks) :
    Calls Try.prog 77 #[.agg #[kv]] w fun e W => ∃ r, e = .returned r ∧ Ext w W ∧ IsInts W .i64 r (rowsL ks (rkN ks)) := by
  obtain ⟨sa, cap, rfl, h1, h2, -⟩ := hv.spec
  have hN := nSt_le v
  have hNe := nSt_eq v
  have HV := Lib.hid hv
  have V := Lib.hid v
  have n1 := v.n1
  have n5 := v.n5
  have HNE := Lib.hid hNe
  have cs := fun W h => statesR_any ks (.slice sa ks.length cap) W h v
  rw [← hNe] at cs
  have CS := Lib.hid cs
  clear hv v hNe cs
  obtain ⟨N, hNN⟩ : ∃ N, N = nSt ks := ⟨_, rfl⟩
  rw [← hNN] at hN CS
  have HNN := Lib.hid hNN
  clear hNN
  go_enter Try.func77, Try.ntmps77
  go_upto_region 1 with (fail)
  obtain ⟨W0, hW0⟩ : ∃ W0, W0 = w.alloc (.cells #[.slice sa ks.length cap] 24) := ⟨_, rfl⟩
  have hE : Ext w W0 := by rw [hW0]; exact (by repeat (first | exact Below.refl _ _ | refine Ext.al ?_ _ | refine Ext.dr ?_ | refine Ext.drN ?_ _ | refine Ext.gr ?_ _ | refine Ext.set ?_ (by simp) _ | (refine Ext.trans' ?_ (by assumption))))
  have k0 : W0.cell? ⟨w.heap.size, 0, none⟩ = some (.slice sa ks.length cap) := by rw [hW0]; simp [go_sem]
  have hz : w.heap.size < W0.heap.size := World.block_lt_of_cell? _ _ k0
  have HS := Lib.hid (HV.out.ext hE)
  have HW := Lib.hid hE
  rw [← hW0]
  clear hW0 HV
  clear hE
  go_wp2_with fail
  refine (CS.out _ (HS.out.ext (by exact (by repeat (first | exact Below.refl _ _ | refine Ext.al ?_ _ | refine Ext.dr ?_ | refine Ext.drN ?_ _ | refine Ext.gr ?_ _ | refine Ext.set ?_ (by simp) _ | (refine Ext.trans' ?_ (by assumption))))))).mono ?_
  rintro e W1 ⟨rfl, hE1⟩
  have hE1' : Ext W0 W1 := hE1
  replace k0 := cell_ext hE1' k0
  replace hz := World.block_lt_of_cell? _ _ k0
  replace HS := Lib.hid (HS.out.ext hE1')
  replace HW := Lib.hid (HW.out.trans' hE1')
  simp only at hz
  clear hE1 hE1' CS
  go_wp2_with fail
  go_loopw [4, 5] (fun a i W => ∃ k : Nat, k ≤ N ∧ i = .int .i64 k ∧ Ext W1 W ∧ Owns W W1.heap.size 3 1 a (List.replicate k (iRow (-1)))) (fun _ i _ => N - (intOf i).toNat)
  case atStart => exact ⟨0, by omega, rfl, Below.refl _ _, Owns.nil _ _ _ _⟩
  case round =>
    obtain ⟨k, hk, rfl, hE, hown⟩ := hrel
    obtain ⟨oa, on, oc, rfl⟩ := hown.isSlice
    have k1 := cell_ext hE k0
    have hz1 := World.block_lt_of_cell? _ _ k1
    have hsz := hE.size
    simp only at hz1
    have HO := Lib.hid hown
    have HE := Lib.hid hE
    clear hE hown
    by_cases hlt : k < N
    · have g0 : decide ((k : Int) < (N : Int)) = true := decide_eq_true (by omega)
      go_wp2_with (at_builtin; refine wpOwn rfl (.tmp 15) (.tmp 16) elInt rfl W1.heap.size rfl (HO.out.ext (by exact (by repeat (first | exact Below.refl _ _ | refine Ext.al ?_ _ | refine Ext.dr ?_ | refine Ext.drN ?_ _ | refine Ext.gr ?_ _ | refine Ext.set ?_ (by simp) _ | (refine Ext.trans' ?_ (by assumption)))))) wr.heap.size 0 1 [iRow (-1 : Int)] rfl (by simp [iRow]) (newRow _ (iRow (-1 : Int)) _) (by simp [iRow, Value.oneCell']) (by simp; omega) (by simp; omega) ?_)
      intro v' w' hown' hbel
      obtain ⟨va, vn, vc, rfl⟩ := hown'.isSlice
      have HO2 := Lib.hid hown'
      have HB2 := Lib.hid hbel
      clear hown' hbel
      go_wp2_with fail
      go_roundw
      case rel =>
        refine ⟨k + 1, by omega, by go_num, (show Ext W1 _ from HE.out.trans' (by repeat (first | exact Below.refl _ _ | refine Ext.al ?_ _ | refine Ext.dr ?_ | refine Ext.drN ?_ _ | refine Ext.gr ?_ _ | refine Ext.set ?_ (by simp) _ | (refine Ext.trans' ?_ (by assumption))))).trans HB2.out, ?_⟩
        rw [List.replicate_succ']
        exact HO2.out
      case measure => simp [intOf]; omega
    · have g0 : decide ((k : Int) < (N : Int)) = false := decide_eq_false (by omega)
      obtain rfl : k = N := by omega
      obtain ⟨g, cap', hv, hgc⟩ : ∃ g cap', (Value.slice oa on oc) = .slice (some ⟨g, 0, none⟩) k cap' ∧ k ≤ cap' := by
        obtain ⟨sa', cap', e, hcl, _, hf⟩ := HO.out.form
        rcases hf with ⟨h0, _⟩ | ⟨g, rfl, _⟩
        · have := congrArg List.length h0
          simp at this; omega
        · exact ⟨g, cap', by rw [e]; simp, by simpa using hcl⟩
      have hown := HO.out
      rw [hv] at hown ⊢
      have hst := rowB_start (ks := ks) HNN.out (by rw [List.map_replicate, ← HNN.out]; exact hown)
      obtain ⟨q1, q2, q3, q4⟩ := hst
      have HRB := Lib.hid q4
      have HC := Lib.hid q2
      clear hown HO q4 q2 hv
      go_wp2_with fail
      obtain ⟨U, hU⟩ : ∃ U, U = wr := ⟨_, rfl⟩
      subst hU
      clear hgc hk
      go_loopw [6] (fun mv W => ∃ (more : Bool) (rows : Int → Int), mv = .bool more ∧ RowsOk ks rows ∧ RowB W g ks rows ∧ Ext W1 W ∧ (more = false → ∀ i : Nat, i < k → rows i < 0 → bndL rows 0 (nxN ks i) = none)) (fun mv W => if isTrue mv then cntW W g ks + 1 else 0)
      case atStart => exact ⟨true, fun _ => -1, rfl, rowsOk_start ks, HRB.out, HE.out, fun h => by cases h⟩
      case round =>
        obtain ⟨more, rows, rfl, hok, hrb, hE, hnone⟩ := hrel
        have HOK := Lib.hid hok
        have HRW := Lib.hid hrb
        have HE2 := Lib.hid hE
        have HNO := Lib.hid hnone
        have HCW := Lib.hid (cntW_eq hrb)
        cases more
        · have hfin : ∀ i, 0 ≤ i → i < prodK ks → rows i = rkN ks i := rows_all V.out hok fun i h0 h1 hn => by
            have h2 := hnone rfl i.toNat (by have := HNN.out; have := HNE.out; omega)
            rw [show ((i.toNat : Nat) : Int) = i by omega] at h2
            exact h2 hn
          have hlist : rowsL ks rows = rowsL ks (rkN ks) := by
            unfold rowsL
            refine List.map_congr_left fun i hi => hfin i (by omega) ?_
            have := List.mem_range.1 hi
            have := HNE.out
            omega
          have HL := Lib.hid hlist
          clear hfin hlist hok hrb hE hnone
          go_wp2_with fail
          go_ret
          refine ⟨_, rfl, HW.out.trans' HE2.out, ?_⟩
          rw [← HL.out]
          have := HRW.out.ints (cap := cap') (by rw [← HNN.out]; exact q1) HC.out
          rwa [← HNN.out] at this
        · clear hok hrb hE hnone HNO
          obtain ⟨Y, hY⟩ : ∃ Y, Y = wr := ⟨_, rfl⟩
          subst hY
          go_wp2_with fail
          go_loopw [6, 7] (fun mv iv W => ∃ (i : Nat) (more : Bool) (rows' : Int → Int), i ≤ k ∧ iv = .int .i64 i ∧ mv = .bool more ∧ RowsOk ks rows' ∧ RowB W g ks rows' ∧ Ext W1 W ∧ (more = false → rows' = rows ∧ ∀ j : Nat, j < i → rows j < 0 → bndL rows 0 (nxN ks j) = none) ∧ (more = true → negC ks rows' < negC ks rows) ∧ negC ks rows' ≤ negC ks rows) (fun _ iv _ => k - (intOf iv).toNat)
          case atStart => exact ⟨0, false, rows, by omega, rfl, rfl, HOK.out, HRW.out, HE2.out, fun _ => ⟨rfl, fun j h => by omega⟩, (fun h => by cases h), Nat.le_refl _⟩
          case round =>
            obtain ⟨i, more, rows', hi, rfl, rfl, hok, hrb, hE, hm1, hm2, hm3⟩ := hrel
            have k2 := cell_ext hE k0
            have hz2 := World.block_lt_of_cell? _ _ k2
            simp only at hz2
            have hgz := hrb.lt
            have HOK2 := Lib.hid hok
            have HRW2 := Lib.hid hrb
            have HE3 := Lib.hid hE
            have HM1 := Lib.hid hm1
            have HM2 := Lib.hid hm2
            have HM3 := Lib.hid hm3
            have HSr := Lib.hid (HS.out.ext hE)
            by_cases hlt : i < k
            · have hii : (i : Int) < (k : Int) := by omega
              have hin : i < nSt ks := by rw [← HNN.out]; exact hlt
              have c0 := hrb.cell hin
              have f0 := hrb.free i
              obtain ⟨r, hr⟩ : ∃ r, r = rows' i := ⟨_, rfl⟩
              rw [← hr] at c0
              have HR := Lib.hid hr
              have HIN := Lib.hid hin
              clear hok hrb hE hm1 hm2 hm3 hr hin
              by_cases hneg : r < 0
              · have hd : decide (r < 0) = true := decide_eq_true hneg
                have HNEG := Lib.hid hneg
                clear hneg
                have hbd := fun x h0 h1 => rows_bd V.out HOK2.out (i := x) h0 h1
                have cb := fun W h1 h2 => boundR_any ks rows' i (.slice sa ks.length cap) (.slice (some ⟨g, 0, none⟩) (nSt ks) cap') W h1 h2 V.out HIN.out hbd
                rw [← HNN.out] at cb
                have hints := fun W (e : Ext wr W) => (HRW2.out.ext e).ints (cap := cap') (by rw [← HNN.out]; exact q1) HC.out
                rw [← HNN.out] at hints
                obtain ⟨bo, hbo⟩ : ∃ bo, bo = bndL rows' 0 (nxN ks (i : Int)) := ⟨_, rfl⟩
                rw [← hbo] at cb
                have CB := Lib.hid cb
                have HIS := Lib.hid hints
                have HBO := Lib.hid hbo
                clear hbd cb hints hbo
                go_wp2_with fail
                refine (CB.out _ (HSr.out.ext (by exact (by repeat (first | exact Below.refl _ _ | refine Ext.al ?_ _ | refine Ext.dr ?_ | refine Ext.drN ?_ _ | refine Ext.gr ?_ _ | refine Ext.set ?_ (by simp) _ | (refine Ext.trans' ?_ (by assumption)))))) (HIS.out _ (by exact (by repeat (first | exact Below.refl _ _ | refine Ext.al ?_ _ | refine Ext.dr ?_ | refine Ext.drN ?_ _ | refine Ext.gr ?_ _ | refine Ext.set ?_ (by simp) _ | (refine Ext.trans' ?_ (by assumption))))))).mono ?_
                rintro e W3 ⟨rfl, hE4⟩
                have k3 := cell_ext hE4 k2
                have hz3 := World.block_lt_of_cell? _ _ k3
                simp only at hz3
                have HE4 := Lib.hid hE4
                cases bo with
                | none =>
                  have hd2 : decide ((0 : Int) ≤ bndI none) = false := by decide
                  have hbi : bndI none = -1 := rfl
                  rw [hbi]
                  clear hbi hd2 hE4
                  go_wp2_with fail
                  go_roundw
                  case rel =>
                    refine ⟨i + 1, more, rows', by omega, by go_num, rfl, HOK2.out, HRW2.out.ext HE4.out, HE3.out.trans' HE4.out, fun h => ?_, HM2.out, HM3.out⟩
                    obtain ⟨e1, e2⟩ := HM1.out h
                    refine ⟨e1, fun j hj hjn => ?_⟩
                    by_cases e : j < i
                    · exact e2 j e hjn
                    · obtain rfl : j = i := by omega
                      rw [← e1]; exact HBO.out.symm
                  case measure => simp [intOf]; omega
                | some m =>
                  have hbr := bnd_rk V.out HOK2.out HBO.out.symm
                  have hm0 : 0 ≤ m := hbr.1
                  have hd2 : decide ((0 : Int) ≤ m) = true := decide_eq_true hm0
                  have hbi : bndI (some m) = m := rfl
                  have HBI := Lib.hid hbi
                  rw [hbi]
                  have HSW := Lib.hid (HSr.out.ext hE4)
                  clear hbr hbi hE4
                  go_wp2_with fail
                  refine (CB.out _ (HSW.out.ext (by exact (by repeat (first | exact Below.refl _ _ | refine Ext.al ?_ _ | refine Ext.dr ?_ | refine Ext.drN ?_ _ | refine Ext.gr ?_ _ | refine Ext.set ?_ (by simp) _ | (refine Ext.trans' ?_ (by assumption)))))) (HIS.out _ (by exact HE4.out))).mono ?_
                  rintro e W4 ⟨rfl, hE5⟩
                  have hE6 := HE4.out.trans' hE5
                  have hrb6 := HRW2.out.ext hE6
                  have c6 := hrb6.cell HIN.out
                  rw [← HR.out] at c6
                  have f6 := hrb6.free i
                  have g6 := hrb6.lt
                  have HRB6 := Lib.hid hrb6
                  have HE7 := Lib.hid (HE3.out.trans' hE6)
                  rw [HBI.out]
                  clear hE5 hE6 hrb6
                  go_wp2_with fail
                  go_roundw
                  case rel =>
                    have hlt2 := negC_set HIN.out (show rows' i < 0 by rw [← HR.out]; exact HNEG.out) hm0
                    refine ⟨i + 1, true, _, by omega, by go_num, rfl, HOK2.out.set V.out HBO.out.symm, HRB6.out.set i m, HE7.out.setCell (by simp only; omega) _, (fun h => by cases h), fun _ => ?_, ?_⟩
                    · have := HM3.out; omega
                    · have := HM3.out; omega
                  case measure => simp [intOf]; omega
              · have hd : decide (r < 0) = false := decide_eq_false hneg
                have HNEG := Lib.hid hneg
                clear hneg
                go_wp2_with fail
                go_roundw
                case rel =>
                  refine ⟨i + 1, more, rows', by omega, by go_num, rfl, HOK2.out, HRW2.out, HE3.out, fun h => ?_, HM2.out, HM3.out⟩
                  obtain ⟨e1, e2⟩ := HM1.out h
                  refine ⟨e1, fun j hj hjn => ?_⟩
                  by_cases e : j < i
                  · exact e2 j e hjn
                  · obtain rfl : j = i := by omega
                    exact absurd (by rw [HR.out, e1]; exact hjn) HNEG.out
                case measure => simp [intOf]; omega
            · have hii : ¬ ((i : Int) < (k : Int)) := by omega
              obtain rfl : i = k := by omega
              clear hok hrb hE hm1 hm2 hm3
              go_wp2_with fail
              go_roundw
              case rel =>
                refine ⟨more, rows', rfl, HOK2.out, HRW2.out, HE3.out, fun h => ?_⟩
                obtain ⟨e1, e2⟩ := HM1.out h
                subst e1
                exact e2
              case measure =>
                have e1 := HCW.out
                have e2 := cntW_eq HRW2.out
                have e3 := HM2.out
                unfold negC at e3
                cases more
                · simp [isTrue]
                · have := e3 rfl
                  simp [isTrue]
                  omega
end Go.Proofs.Ytndgaklcnhoddaa
