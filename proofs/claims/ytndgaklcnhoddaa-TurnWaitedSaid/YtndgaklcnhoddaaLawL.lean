/-
  The walk of the statements' function leads: does some visit lead to a safe state, if some windows do not pull?
-/
import Derived.Test.YtndgaklcnhoddaaEither
import Derived.Test.YtndgaklcnhoddaaRefQ
namespace Go.Proofs.Ytndgaklcnhoddaa
open Go.RowKit Go.Shelf
theorem okW_iff {ks s l : List Int} : okW ks s l = true ↔ fullP (notIn l) ks s = false ∧ ∃ w, w < ks.length ∧ SafeP (nxS ks) (visit (upP (notIn l) s) w) := by
  unfold okW
  rw [← leads_ne]
  cases leadsL ks (notIn l) s <;> simp
/-- the error of Doom of a state -/
def DoomV (er : Int) (v : Value) : Prop := ∃ r, v = .tuple #[r, .int .i64 er]
set_option maxRecDepth 100000 in
set_option maxHeartbeats 8000000 in
theorem leadsW_any (ks s : List Int) (b : Nat) (kv lv : Value) (w : World) (hv : IsInts w .i64 kv ks) (hl : IsInts w .i64 lv s) (hb : b < 2 ^ ks.length) (v : TVal ks) (hst : isSt ks s = true) :
    Calls Try.prog 57 #[.agg #[kv], lv, .int .i64 b] w fun e W => e = .returned (.bool (okW ks s (bitsL ks.length b))) ∧ Ext w W := by
  obtain ⟨sa, cap, rfl, h1, h2, -⟩ := hv.spec
  obtain ⟨la, lcap, rfl, h3, h4, -⟩ := hl.spec
  have HV := Lib.hid hv
  have HL0 := Lib.hid hl
  have V := Lib.hid v
  have HIS := Lib.hid hst
  have HBP := Lib.hid hb
  have n1 := v.n1
  have n5 := v.n5
  clear hv hl v hst hb
  obtain ⟨an, han⟩ : ∃ an, an = okW ks s (bitsL ks.length b) := ⟨_, rfl⟩
  rw [← han]
  go_enter Try.func57, Try.ntmps57
  go_upto_region 1 with (fail)
  obtain ⟨W0, hW0⟩ : ∃ W0, W0 = w.alloc (.cells #[.slice sa ks.length cap] 24) := ⟨_, rfl⟩
  have hE : Ext w W0 := by rw [hW0]; exact (by repeat (first | exact Below.refl _ _ | refine Ext.al ?_ _ | refine Ext.dr ?_ | refine Ext.drN ?_ _ | refine Ext.gr ?_ _ | refine Ext.set ?_ (by simp) _ | (refine Ext.trans' ?_ (by assumption))))
  have k0 : W0.cell? ⟨w.heap.size, 0, none⟩ = some (.slice sa ks.length cap) := by rw [hW0]; simp [go_sem]
  have hz : w.heap.size < W0.heap.size := World.block_lt_of_cell? _ _ k0
  have HS := Lib.hid (HV.out.ext hE)
  have HW := Lib.hid hE
  rw [← hW0]
  clear hW0 HV
  have HL := Lib.hid (HL0.out.ext hE)
  clear hE HL0
  have hsl := isSt_len HIS.out
  have hs5 : s.length ≤ 5 := by omega
  have hsh := shlw5 hs5
  have hA := pow5 n5
  obtain ⟨A, hAe⟩ : ∃ A, A = 2 ^ ks.length := ⟨_, rfl⟩
  have hsh2 : IntKind.i64.wrap (2 ^ s.length) = (A : Int) := by rw [hsh, hsl, hAe]
  have hmin : min s.length 64 = s.length := by omega
  rw [← hAe] at hA
  have hbA : b < A := by rw [hAe]; exact HBP.out
  obtain ⟨C, hC⟩ : ∃ C, C = A - 1 - b := ⟨_, rfl⟩
  have hCi : (A : Int) - 1 - (b : Int) = (C : Int) := by omega
  have hCp : C < 2 ^ ks.length := by rw [← hAe]; omega
  have hw1 : IntKind.i64.wrap ((A : Int) - 1) = (A : Int) - 1 := IntWalk.i64_in _ (by omega)
  have hw2 : IntKind.i64.wrap ((A : Int) - 1 - (b : Int)) = (C : Int) := by rw [hCi]; exact IntWalk.i64_in _ (by omega)
  have hCe : C = 2 ^ ks.length - 1 - b := by rw [← hAe]; exact hC
  obtain ⟨q, hq⟩ : ∃ q, q = notIn (bitsL ks.length b) := ⟨_, rfl⟩
  have cp := fun sv pv W h1 h2 h3 => pulledC_any ks s b (.slice sa ks.length cap) sv pv W h1 h2 HBP.out h3 V.out HIS.out
  rw [← hq] at cp
  rw [← hCe] at cp
  obtain ⟨ok, hok⟩ : ∃ ok, ok = !fullP q ks s := ⟨_, rfl⟩
  obtain ⟨XL, hXL⟩ : ∃ XL, XL = (if fullP q ks s then [] else upP q s) := ⟨_, rfl⟩
  have hIFF : an = true ↔ ok = true ∧ ∃ w, w < ks.length ∧ SafeP (nxS ks) (visit XL w) := by
    rw [han, okW_iff, ← hq, hok, hXL]
    cases fullP q ks s <;> simp
  have hXS : ok = true → isSt ks XL = true := fun h => by
    have hf : fullP q ks s = false := by rw [hok] at h; cases h9 : fullP q ks s <;> simp [h9] at h ⊢
    rw [hXL, hf]
    exact up_st HIS.out hf
  have HOKX := Lib.hid hok
  have HXLX := Lib.hid hXL
  have HCP := Lib.hid hCp
  have HIFF := Lib.hid hIFF
  have HXS := Lib.hid hXS
  have CP := Lib.hid cp
  have HSL := Lib.hid hsl
  clear hok hXL hCp cp hq hC hCi hCe han hIFF hXS hAe hsh hsl
  go_wp2_with fail
  obtain ⟨Y, hY⟩ : ∃ Y, Y = W0 := ⟨_, rfl⟩
  subst hY
  refine wp_region_rove (Y.heap.size) (Nat.le_refl _)
    [sqV (.agg #[.slice sa ks.length cap]),
     sqV (.slice la s.length lcap),
     sqV (.slice la s.length lcap),
     sqV (.int .i64 s.length),
     sqV (.int .i64 A),
     sqV (.int .i64 (A - 1)),
     sqV (.int .i64 b),
     sqV (.int .i64 C),
     sqW (fun v W => IsInts W .i64 v (bitsL ks.length C)) (fun _ _ _ h e => IsInts.ext e h),
     sqW (fun v W => ∃ r, v = .tuple #[r, .bool ok] ∧ IsInts W .i64 r XL) (fun _ _ _ ⟨r, h1, h2⟩ e => ⟨r, h1, IsInts.ext e h2⟩),
     sqW (fun v W => ∃ r, v = .tuple #[r, .bool ok] ∧ IsInts W .i64 r XL) (fun _ _ _ ⟨r, h1, h2⟩ e => ⟨r, h1, IsInts.ext e h2⟩),
     sqW (fun v W => IsInts W .i64 v XL) (fun _ _ _ h e => IsInts.ext e h),
     sqV (.bool ok),
     sqW (fun v W => IsInts W .i64 v XL) (fun _ _ _ h e => IsInts.ext e h),
     sqV (.bool ok)]
    [true, true, true, true, true, true, true, true, false, false, false, false, true, false, true] [false, false, false, false, false, false, false, false, false, false, false, false, false, false, false] [true, true, true, true, true, true, true, true, true, true, true, true, true, true, true] [true, true, true, true, true, true, true, true, true, true, true, true, true, true, true]
    (by kernel_rfl) (by kernel_rfl) (by decide +kernel) (by decide +kernel) (by decide +kernel) rfl ⟨rfl, rfl⟩ ⟨?s0, ?s1, ?s2, ?s3, ?s4, ?s5, ?s6, ?s7, ?s8, ?s9, ?s10, ?s11, ?s12, ?s13, ?s14, trivial⟩ [some 13, some 14, some 15, some 16, some 17, some 18, some 19, some 20, some 21, some 22, some 12, some 23, some 24, some 7, some 8] rfl rfl ?send
  case s0 =>
    intro val ρ W hE hz hd hA hx
    have o0 : ρ (.tmp 3) = .pointer (some ⟨w.heap.size, 0, none⟩) := hA.old 3 (by decide)
    have f_k0 := cell_below hE (by simp only; omega) k0
    clear hd
    exact runq_val (W' := W) (by simp [execOp, o0, f_k0, go_sem]) (Below.refl _ _) rfl
  case s1 =>
    intro val ρ W hE hz hd hA hx
    have o0 : ρ (.tmp 1) = .slice la s.length lcap := hA.old 1 (by decide)
    clear hd
    exact runq_val (W' := W) (by simp [execOp, o0, go_sem]) (Below.refl _ _) rfl
  case s2 =>
    intro val ρ W hE hz hd hA hx
    have o0 : ρ (.tmp 1) = .slice la s.length lcap := hA.old 1 (by decide)
    clear hd
    exact runq_val (W' := W) (by simp [execOp, o0, go_sem]) (Below.refl _ _) rfl
  case s3 =>
    intro val ρ W hE hz hd hA hx
    have d2 : ρ (.tmp 15) = .slice la s.length lcap := (hA.dep 2 (by decide) 15 rfl).trans (hd 2 (by decide))
    clear hd
    exact runq_val (W' := W) (by simp [execOp, d2, go_sem]) (Below.refl _ _) rfl
  case s4 =>
    intro val ρ W hE hz hd hA hx
    have d3 : ρ (.tmp 16) = .int .i64 s.length := (hA.dep 3 (by decide) 16 rfl).trans (hd 3 (by decide))
    clear hd
    exact runq_val (W' := W) (by simp [execOp, hA.const, d3, hsh2, hmin, go_sem]) (Below.refl _ _) rfl
  case s5 =>
    intro val ρ W hE hz hd hA hx
    have d4 : ρ (.tmp 17) = .int .i64 A := (hA.dep 4 (by decide) 17 rfl).trans (hd 4 (by decide))
    clear hd
    exact runq_val (W' := W) (by simp [execOp, hA.const, d4, hw1, go_sem]) (Below.refl _ _) rfl
  case s6 =>
    intro val ρ W hE hz hd hA hx
    have o0 : ρ (.tmp 2) = .int .i64 b := hA.old 2 (by decide)
    clear hd
    exact runq_val (W' := W) (by simp [execOp, o0, go_sem]) (Below.refl _ _) rfl
  case s7 =>
    intro val ρ W hE hz hd hA hx
    have d5 : ρ (.tmp 18) = .int .i64 (A - 1) := (hA.dep 5 (by decide) 18 rfl).trans (hd 5 (by decide))
    have d6 : ρ (.tmp 19) = .int .i64 b := (hA.dep 6 (by decide) 19 rfl).trans (hd 6 (by decide))
    clear hd
    exact runq_val (W' := W) (by simp [execOp, d5, d6, hw2, go_sem]) (Below.refl _ _) rfl
  case s14 =>
    intro val ρ W hE hz hd hA hx
    have d12 : ρ (.tmp 24) = .bool ok := (hA.dep 12 (by decide) 24 rfl).trans (hd 12 (by decide))
    clear hd
    exact runq_val (W' := W) (by simp [execOp, d12, go_sem]) (Below.refl _ _) rfl
  case s8 =>
    intro val ρ W hE hz hd hA hx
    have d5 : ρ (.tmp 20) = .int .i64 C := (hA.dep 7 (by decide) 20 rfl).trans (hd 7 (by decide))
    clear hd
    refine runq_call 48 _ _ rfl #[.int .i64 C] (hA.func _) (by simp [d5]) (fun args W => Try.call48 args W) ((bitsR5_any ks.length C (by omega) HCP.out W).mono ?_)
    rintro e w' ⟨v, rfl, hb, hi⟩
    exact ⟨_, rfl, hb, hi⟩
  case s9 =>
    intro val ρ W hE hz hd hA hx
    have d0 : ρ (.tmp 13) = .agg #[.slice sa ks.length cap] := (hA.dep 0 (by decide) 13 rfl).trans (hd 0 (by decide))
    have d1 : ρ (.tmp 14) = .slice la s.length lcap := (hA.dep 1 (by decide) 14 rfl).trans (hd 1 (by decide))
    have q6 : IsInts W .i64 (val 8) (bitsL ks.length C) := hd 8 (by decide)
    have d6 : ρ (.tmp 21) = val 8 := hA.dep 8 (by decide) 21 rfl
    clear hd
    refine runq_call 49 _ _ rfl #[.agg #[.slice sa ks.length cap], .slice la s.length lcap, val 8] (hA.func _) (by simp [d0, d1, d6]) (fun args W => Try.call49 args W) ((CP.out _ _ W (HS.out.ext hE) (HL.out.ext hE) q6).mono ?_)
    rintro e w' ⟨v, rfl, hb, hi⟩
    exact ⟨_, rfl, hb, v, by rw [HOKX.out], by rw [HXLX.out]; exact hi⟩
  case s10 =>
    intro val ρ W hE hz hd hA hx
    obtain ⟨r, h1, h2⟩ : ∃ r, val 9 = .tuple #[r, .bool ok] ∧ IsInts W .i64 r XL := hd 9 (by decide)
    have dd : ρ (.tmp 22) = .tuple #[r, .bool ok] := (hA.dep 9 (by decide) 22 rfl).trans h1
    exact runq_val (W' := W) (v := .tuple #[r, .bool ok]) (by simp [execOp, dd, go_sem]) (Below.refl _ _) ⟨r, rfl, h2⟩
  case s11 =>
    intro val ρ W hE hz hd hA hx
    obtain ⟨r, h1, h2⟩ : ∃ r, val 10 = .tuple #[r, .bool ok] ∧ IsInts W .i64 r XL := hd 10 (by decide)
    have dd : ρ (.tmp 12) = .tuple #[r, .bool ok] := (hA.dep 10 (by decide) 12 rfl).trans h1
    exact runq_val (W' := W) (v := r) (by simp [execOp, dd, go_sem]) (Below.refl _ _) h2
  case s12 =>
    intro val ρ W hE hz hd hA hx
    obtain ⟨r, h1, h2⟩ : ∃ r, val 10 = .tuple #[r, .bool ok] ∧ IsInts W .i64 r XL := hd 10 (by decide)
    have dd : ρ (.tmp 12) = .tuple #[r, .bool ok] := (hA.dep 10 (by decide) 12 rfl).trans h1
    exact runq_val (W' := W) (v := .bool ok) (by simp [execOp, dd, go_sem]) (Below.refl _ _) rfl
  case s13 =>
    intro val ρ W hE hz hd hA hx
    have qx : IsInts W .i64 (val 11) XL := hd 11 (by decide)
    have dx : ρ (.tmp 23) = val 11 := hA.dep 11 (by decide) 23 rfl
    exact runq_val (W' := W) (v := val 11) (by simp [execOp, dx, go_sem]) (Below.refl _ _) qx
  case send =>
    intro val WW hE hzz hv
    obtain ⟨-, -, -, -, -, -, -, -, -, -, -, -, -, q8, q9, -⟩ := hv
    have q9' : val 14 = .bool ok := q9
    replace q8 : IsInts WW .i64 (val 13) XL := q8
    obtain ⟨X8, hX8⟩ : ∃ X8, X8 = val 13 := ⟨_, rfl⟩
    rw [← hX8] at q8
    simp only [putD, q9', ← hX8]
    go_frame
    clear q9 q9' hX8 hzz
    obtain ⟨xa, xc, rfl, -, -, -⟩ := q8.spec
    have HX8 := Lib.hid q8
    clear q8
    have hEW : Ext Y WW := hE
    have HEW := Lib.hid (HW.out.trans' hEW)
    have HSW := Lib.hid (HS.out.ext hEW)
    have k2 := cell_ext hEW k0
    have hz2 := World.block_lt_of_cell? _ _ k2
    simp only at hz2
    clear hE hEW hsh2 hmin hw1 hw2 k0
    go_wp2_with fail
    go_loopw [9] (fun iv W => ∃ k : Nat, k ≤ s.length ∧ iv = .int .i64 k ∧ (ok = true → ∀ j, j < k → ¬ SafeP (nxS ks) (visit XL j)) ∧ Ext WW W) (fun iv _ => s.length - (intOf iv).toNat)
    case atStart => exact ⟨0, by omega, rfl, fun _ j hj => by omega, Below.refl _ _⟩
    case round =>
      obtain ⟨k, hk, rfl, hno, hE⟩ := hrel
      have HNO := Lib.hid hno
      have HE := Lib.hid hE
      have k3 := cell_ext hE k2
      have hz3 := World.block_lt_of_cell? _ _ k3
      simp only at hz3
      have HSr := Lib.hid (HSW.out.ext hE)
      have HXr := Lib.hid (HX8.out.ext hE)
      clear hno hE
      cases ok
      · have ha : an = false := by
          cases h : an
          · rfl
          · have := (HIFF.out.1 h).1; simp at this
        have HA := Lib.hid ha
        clear ha
        go_wp2_with fail
        go_ret
        exact ⟨ret_bool HA.out.symm, HEW.out.trans' HE.out⟩
      · by_cases hlt : k < s.length
        · have hki : (k : Int) < (s.length : Int) := by omega
          have hxst := HXS.out rfl
          have hxl := isSt_len hxst
          have hkx : k < XL.length := by rw [hxl, ← HSL.out]; exact hlt
          have hx5 : XL.length ≤ 1000 := by omega
          have hvst : isSt ks (visit XL k) = true := visit_st hxst (fun j hj => by have := V.out.at_ j hj; omega) k
          obtain ⟨er, her⟩ : ∃ er, er = doomRErr ks (visit XL k) := ⟨_, rfl⟩
          have HER := Lib.hid her
          have HVST := Lib.hid hvst
          have HKX := Lib.hid hkx
          clear hxst hxl hkx hvst her
          go_wp2_with fail
          obtain ⟨Z, hZ⟩ : ∃ Z, Z = wr := ⟨_, rfl⟩
          subst hZ
          refine wp_region_rove (Z.heap.size) (Nat.le_refl _)
            [sqV (.agg #[.slice sa ks.length cap]),
             sqV (.slice xa XL.length xc),
             sqV (.int .i64 k),
             sqW (fun v W => IsInts W .i64 v (visit XL k)) (fun _ _ _ h e => IsInts.ext e h),
             sqW (fun v W => DoomV er v) (fun _ _ _ h _ => h),
             sqW (fun v W => DoomV er v) (fun _ _ _ h _ => h),
             sqW (fun v W => True) (fun _ _ _ h _ => h),
             sqV (.int .i64 er),
             sqW (fun v W => True) (fun _ _ _ h _ => h),
             sqV (.int .i64 er)]
            [true, true, true, false, false, false, false, true, false, true] [false, false, false, false, false, false, false, false, false, false] [true, true, true, true, true, true, true, true, true, true] [true, true, true, true, true, true, true, true, true, true]
            (by kernel_rfl) (by kernel_rfl) (by decide +kernel) (by decide +kernel) (by decide +kernel) rfl ⟨rfl, rfl⟩ ⟨?s0, ?s1, ?s2, ?s3, ?s4, ?s5, ?s6, ?s7, ?s8, ?s9, trivial⟩ [some 35, some 36, some 37, some 38, some 39, some 34, some 40, some 41, some 10, some 11] rfl rfl ?send
          case s0 =>
            intro val ρ W hE hz hd hA hx
            have o0 : ρ (.tmp 3) = .pointer (some ⟨w.heap.size, 0, none⟩) := hA.old 3 (by decide)
            have f_k3 := cell_below hE (by simp only; omega) k3
            clear hd
            exact runq_val (W' := W) (by simp [execOp, o0, f_k3, go_sem]) (Below.refl _ _) rfl
          case s1 =>
            intro val ρ W hE hz hd hA hx
            have o0 : ρ (.tmp 7) = .slice xa XL.length xc := hA.old 7 (by decide)
            clear hd
            exact runq_val (W' := W) (by simp [execOp, o0, go_sem]) (Below.refl _ _) rfl
          case s2 =>
            intro val ρ W hE hz hd hA hx
            have o0 : ρ (.tmp 9) = .int .i64 k := hA.old 9 (by decide)
            clear hd
            exact runq_val (W' := W) (by simp [execOp, o0, go_sem]) (Below.refl _ _) rfl
          case s9 =>
            intro val ρ W hE hz hd hA hx
            have d7 : ρ (.tmp 41) = .int .i64 er := (hA.dep 7 (by decide) 41 rfl).trans (hd 7 (by decide))
            clear hd
            exact runq_val (W' := W) (by simp [execOp, d7, go_sem]) (Below.refl _ _) rfl
          case s3 =>
            intro val ρ W hE hz hd hA hx
            have d1 : ρ (.tmp 36) = .slice xa XL.length xc := (hA.dep 1 (by decide) 36 rfl).trans (hd 1 (by decide))
            have d2 : ρ (.tmp 37) = .int .i64 k := (hA.dep 2 (by decide) 37 rfl).trans (hd 2 (by decide))
            clear hd
            refine runq_call 50 _ _ rfl #[.slice xa XL.length xc, .int .i64 k] (hA.func _) (by simp [d1, d2]) (fun args W => Try.call50 args W) ((visitedR_any XL k _ W (HXr.out.ext hE) HKX.out hx5).mono ?_)
            rintro e w' ⟨r, rfl, hb, hi⟩
            exact ⟨_, rfl, hb, hi⟩
          case s4 =>
            intro val ρ W hE hz hd hA hx
            have d0 : ρ (.tmp 35) = .agg #[.slice sa ks.length cap] := (hA.dep 0 (by decide) 35 rfl).trans (hd 0 (by decide))
            have q3 : IsInts W .i64 (val 3) (visit XL k) := hd 3 (by decide)
            have d3 : ρ (.tmp 38) = val 3 := hA.dep 3 (by decide) 38 rfl
            clear hd
            refine runq_call 34 _ _ rfl #[.agg #[.slice sa ks.length cap], val 3] (hA.func _) (by simp [d0, d3]) (fun args W => Try.call34 args W) ((doomF_any ks (visit XL k) _ _ W (HSr.out.ext hE) q3).mono ?_)
            rintro e w' ⟨r, dl, rfl, hb, -⟩
            rw [← HER.out]
            exact ⟨_, rfl, hb, r, rfl⟩
          case s5 =>
            intro val ρ W hE hz hd hA hx
            obtain ⟨r, h1⟩ : DoomV er (val 4) := hd 4 (by decide)
            have dd : ρ (.tmp 39) = .tuple #[r, .int .i64 er] := (hA.dep 4 (by decide) 39 rfl).trans h1
            exact runq_val (W' := W) (v := .tuple #[r, .int .i64 er]) (by simp [execOp, dd, go_sem]) (Below.refl _ _) ⟨r, rfl⟩
          case s6 =>
            intro val ρ W hE hz hd hA hx
            obtain ⟨r, h1⟩ : DoomV er (val 5) := hd 5 (by decide)
            have dd : ρ (.tmp 34) = .tuple #[r, .int .i64 er] := (hA.dep 5 (by decide) 34 rfl).trans h1
            exact runq_val (W' := W) (v := r) (by simp [execOp, dd, go_sem]) (Below.refl _ _) trivial
          case s7 =>
            intro val ρ W hE hz hd hA hx
            obtain ⟨r, h1⟩ : DoomV er (val 5) := hd 5 (by decide)
            have dd : ρ (.tmp 34) = .tuple #[r, .int .i64 er] := (hA.dep 5 (by decide) 34 rfl).trans h1
            exact runq_val (W' := W) (v := .int .i64 er) (by simp [execOp, dd, go_sem]) (Below.refl _ _) rfl
          case s8 =>
            intro val ρ W hE hz hd hA hx
            have dx : ρ (.tmp 40) = val 6 := hA.dep 6 (by decide) 40 rfl
            exact runq_val (W' := W) (v := val 6) (by simp [execOp, dx, go_sem]) (Below.refl _ _) trivial
          case send =>
            intro val W9 hE hzz hv
            obtain ⟨-, -, -, -, -, -, -, -, -, q9, -⟩ := hv
            have q9' : val 9 = .int .i64 er := q9
            simp only [putD, q9']
            go_frame
            have hEY : Ext Z W9 := hE
            have HE9 := Lib.hid (HE.out.trans' hEY)
            clear q9 q9' hE hzz hEY
            rcases doomR_cases V.out HVST.out with ⟨e1, e2, -⟩ | ⟨e1, e2, -⟩
            · have he : er = 0 := HER.out.trans e1
              subst he
              have HU := Lib.hid e2
              clear e1 e2
              go_wp2_with fail
              go_roundw
              case rel =>
                have hR : ∃ k' : Nat, k' ≤ s.length ∧ Value.int .i64 ((k : Int) + 1) = .int .i64 k' ∧ (True → ∀ j, j < k' → ¬ SafeP (nxS ks) (visit XL j)) ∧ Ext WW W9 := by
                  refine ⟨k + 1, by omega, by go_num, fun _ j hj => ?_, HE9.out⟩
                  by_cases e : j < k
                  · exact HNO.out (by first | rfl | trivial) j e
                  · obtain rfl : j = k := by omega
                    exact HU.out
                repeat apply Exists.intro
                exact ⟨hR, rfl⟩
              case measure => simp [intOf]; omega
            · have he : er = 5 := HER.out.trans e1
              subst he
              have ha : an = true := HIFF.out.2 ⟨by first | rfl | trivial, k, by rw [← HSL.out]; exact hlt, e2⟩
              have HA := Lib.hid ha
              clear e1 e2 ha
              go_wp2_with fail
              go_ret
              exact ⟨ret_bool HA.out.symm, HEW.out.trans' HE9.out⟩
        · have hki : ¬ ((k : Int) < (s.length : Int)) := by omega
          have ha : an = false := by
            cases h : an
            · rfl
            · obtain ⟨-, j, hj, hs⟩ := HIFF.out.1 h
              exact absurd hs (HNO.out rfl j (by have := HSL.out; omega))
          have HA := Lib.hid ha
          clear ha
          go_wp2_with fail
          go_ret
          exact ⟨ret_bool HA.out.symm, HEW.out.trans' HE.out⟩
end Go.Proofs.Ytndgaklcnhoddaa
