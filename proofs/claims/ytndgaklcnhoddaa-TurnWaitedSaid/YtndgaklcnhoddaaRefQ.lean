/-
  The walk of the reference's Wait.
-/
import Derived.Test.YtndgaklcnhoddaaPow
import Derived.Test.YtndgaklcnhoddaaWe
namespace Go.Proofs.Ytndgaklcnhoddaa
open Go.RowKit Go.Shelf
theorem pulledC_any (ks s : List Int) (b : Nat) (kv sv pv : Value) (w : World) (hv : IsInts w .i64 kv ks) (hl : IsInts w .i64 sv s) (hb : b < 2 ^ ks.length) (hp : IsInts w .i64 pv (bitsL ks.length (2 ^ ks.length - 1 - b))) (v : TVal ks) (hst : isSt ks s = true) :
    Calls Try.prog 49 #[.agg #[kv], sv, pv] w (RetPullR ks s (notIn (bitsL ks.length b)) w) := by
  have h := pulledR_any ks s (bitsL ks.length (2 ^ ks.length - 1 - b)) kv sv pv w hv hl hp v.n1 v.n5 (isSt_len hst) (st_bd v hst) (bits_sorted _ _) (fun x hx => ⟨(bits_mem.1 hx).1, (bits_mem.1 hx).2.1⟩) (by have := bitsL_len ks.length (2 ^ ks.length - 1 - b); have := v.n5; omega)
  unfold RetPullR at h ⊢
  rwa [fullP_congr (q := notIn (bitsL ks.length b)) (fun i hi => bits_not hi hb), upP_congr (q := notIn (bitsL ks.length b)) (fun i hi => bits_not (by rw [← isSt_len hst]; exact hi) hb)] at h
noncomputable def okW (ks s l : List Int) : Bool := !(leadsL ks (notIn l) s).isEmpty
theorem bestTo_no {n : Nat} {ok : List Int → Bool} {bef : List Int → List Int → Bool} {k : Nat} (h : ok (bitsL n k) = false) : bestTo n ok bef (k + 1) = bestTo n ok bef k := by
  rw [bestTo, h]; simp
theorem bestTo_new {n : Nat} {ok : List Int → Bool} {bef : List Int → List Int → Bool} {k : Nat} (h : ok (bitsL n k) = true) (h2 : bestTo n ok bef k = none) : bestTo n ok bef (k + 1) = some (bitsL n k) := by
  rw [bestTo, h, h2]; simp
theorem bestTo_cmp {n : Nat} {ok : List Int → Bool} {bef : List Int → List Int → Bool} {k : Nat} {l : List Int} (h : ok (bitsL n k) = true) (h2 : bestTo n ok bef k = some l) : bestTo n ok bef (k + 1) = if bef (bitsL n k) l = true then some (bitsL n k) else some l := by
  rw [bestTo, h, h2]; simp
set_option maxRecDepth 100000 in
set_option maxHeartbeats 8000000 in
theorem waitR_any (ks s : List Int) (kv lv : Value) (w : World) (hv : IsInts w .i64 kv ks) (hl : IsInts w .i64 lv s) :
    Calls Try.prog 41 #[.agg #[kv], lv] w (RetL (waitLL ks s) (waitErr ks s) w) := by
  obtain ⟨sa, cap, rfl, h1, h2, -⟩ := hv.spec
  obtain ⟨la, lcap, rfl, h3, h4, -⟩ := hl.spec
  have HV := Lib.hid hv
  have HL0 := Lib.hid hl
  clear hv hl
  go_enter Try.func41, Try.ntmps41
  go_upto_region 1 with (fail)
  obtain ⟨W0, hW0⟩ : ∃ W0, W0 = w.alloc (.cells #[.slice sa ks.length cap] 24) := ⟨_, rfl⟩
  have hE : Ext w W0 := by rw [hW0]; exact (by repeat (first | exact Below.refl _ _ | refine Ext.al ?_ _ | refine Ext.dr ?_ | refine Ext.drN ?_ _ | refine Ext.gr ?_ _ | refine Ext.set ?_ (by simp) _ | (refine Ext.trans' ?_ (by assumption))))
  have k0 : W0.cell? ⟨w.heap.size, 0, none⟩ = some (.slice sa ks.length cap) := by rw [hW0]; simp [go_sem]
  have hz : w.heap.size < W0.heap.size := World.block_lt_of_cell? _ _ k0
  have HS := Lib.hid (HV.out.ext hE)
  have HW := Lib.hid hE
  rw [← hW0]
  clear hW0 HV
  have HL := Lib.hid (HL0.out.ext hE)
  clear hE HL0
  obtain ⟨er, her⟩ : ∃ er, er = stErr ks s := ⟨_, rfl⟩
  have c1 := fun W h1 h2 => statedR_any ks s (.slice sa ks.length cap) (.slice la s.length lcap) W h1 h2
  simp only [← her] at c1
  have C1 := Lib.hid c1
  have HER := Lib.hid her
  clear c1 her



  by_cases hc : er = 0
  rotate_left
  · have e1 : (er == 0) = false := by simpa using hc
    have e2 : (er != 0) = true := by simpa using hc
    have HC := Lib.hid hc
    clear hc

    go_wp2_with fail
    refine callW (W0 := W0) (g := ⟨W0, Below.refl _ _⟩) (by exact (by repeat (first | exact Below.refl _ _ | refine Ext.al ?_ _ | refine Ext.dr ?_ | refine Ext.drN ?_ _ | refine Ext.gr ?_ _ | refine Ext.set ?_ (by simp) _ | (refine Ext.trans' ?_ (by assumption))))) (C1.out _ (HS.out.ext (by exact (by repeat (first | exact Below.refl _ _ | refine Ext.al ?_ _ | refine Ext.dr ?_ | refine Ext.drN ?_ _ | refine Ext.gr ?_ _ | refine Ext.set ?_ (by simp) _ | (refine Ext.trans' ?_ (by assumption)))))) (HL.out.ext (by exact (by repeat (first | exact Below.refl _ _ | refine Ext.al ?_ _ | refine Ext.dr ?_ | refine Ext.drN ?_ _ | refine Ext.gr ?_ _ | refine Ext.set ?_ (by simp) _ | (refine Ext.trans' ?_ (by assumption))))))) fun g1 hgr => ?_
    clear hgr
    go_wp2_with fail
    refine callW (W0 := W0) (g := g1) (by exact (by repeat (first | exact Below.refl _ _ | refine Ext.al ?_ _ | refine Ext.dr ?_ | refine Ext.drN ?_ _ | refine Ext.gr ?_ _ | refine Ext.set ?_ (by simp) _ | (refine Ext.trans' ?_ (by assumption))))) (C1.out _ (HS.out.ext (by exact (by repeat (first | exact Below.refl _ _ | refine Ext.al ?_ _ | refine Ext.dr ?_ | refine Ext.drN ?_ _ | refine Ext.gr ?_ _ | refine Ext.set ?_ (by simp) _ | (refine Ext.trans' ?_ (by assumption)))))) (HL.out.ext (by exact (by repeat (first | exact Below.refl _ _ | refine Ext.al ?_ _ | refine Ext.dr ?_ | refine Ext.drN ?_ _ | refine Ext.gr ?_ _ | refine Ext.set ?_ (by simp) _ | (refine Ext.trans' ?_ (by assumption))))))) fun g2 hgr => ?_
    clear hgr
    go_wp2_with fail
    refine bodyPost_ret (v := .tuple #[.slice none 0 0, .int .i64 er]) (by simp [results, Try.results41, go_sem]) rfl ?_
    have hne : stErr ks s ≠ 0 := by rw [← HER.out]; exact HC.out
    exact ⟨_, by unfold waitErr; rw [if_pos hne, HER.out], HW.out.trans' (grow_below W0 _), by unfold waitLL; rw [if_pos hne]; exact IsInts.nil _ _⟩

  obtain ⟨v, hsi⟩ := stErr_ok (HER.out.symm.trans hc)
  have HC := Lib.hid (HER.out.symm.trans hc)
  have V := Lib.hid v
  have HIS := Lib.hid hsi
  subst hc
  clear v hsi
  have n1 := V.out.n1
  have n5 := V.out.n5
  go_wp2_with fail
  refine callW (W0 := W0) (g := ⟨W0, Below.refl _ _⟩) (by exact (by repeat (first | exact Below.refl _ _ | refine Ext.al ?_ _ | refine Ext.dr ?_ | refine Ext.drN ?_ _ | refine Ext.gr ?_ _ | refine Ext.set ?_ (by simp) _ | (refine Ext.trans' ?_ (by assumption))))) (C1.out _ (HS.out.ext (by exact (by repeat (first | exact Below.refl _ _ | refine Ext.al ?_ _ | refine Ext.dr ?_ | refine Ext.drN ?_ _ | refine Ext.gr ?_ _ | refine Ext.set ?_ (by simp) _ | (refine Ext.trans' ?_ (by assumption)))))) (HL.out.ext (by exact (by repeat (first | exact Below.refl _ _ | refine Ext.al ?_ _ | refine Ext.dr ?_ | refine Ext.drN ?_ _ | refine Ext.gr ?_ _ | refine Ext.set ?_ (by simp) _ | (refine Ext.trans' ?_ (by assumption))))))) fun g3 hgr => ?_
  clear hgr
  go_wp2_with fail
  refine callWR (W0 := W0) (g := g3) (by exact (by repeat (first | exact Below.refl _ _ | refine Ext.al ?_ _ | refine Ext.dr ?_ | refine Ext.drN ?_ _ | refine Ext.gr ?_ _ | refine Ext.set ?_ (by simp) _ | (refine Ext.trans' ?_ (by assumption))))) (rowsR_any ks _ _ (HS.out.ext (by exact (by repeat (first | exact Below.refl _ _ | refine Ext.al ?_ _ | refine Ext.dr ?_ | refine Ext.drN ?_ _ | refine Ext.gr ?_ _ | refine Ext.set ?_ (by simp) _ | (refine Ext.trans' ?_ (by assumption)))))) V.out) (fun _ _ ⟨_, _, r, _⟩ => r) fun _ g4 hgr hr => ?_
  obtain ⟨r, rfl, -, hR⟩ := hr
  clear hgr
  obtain ⟨ra, rc, rfl, -⟩ := hR.spec
  have HR := Lib.hid hR
  clear hR

  have hsl := isSt_len HIS.out
  have hs5 : s.length ≤ 5 := by omega
  have hsh := shl5 hs5
  have hA := pow5 n5
  obtain ⟨A, hAe⟩ : ∃ A, A = 2 ^ ks.length := ⟨_, rfl⟩
  have hsh2 : wrap64 (2 ^ s.length) = (A : Int) := by rw [hsh, hsl, hAe]
  rw [← hAe] at hA
  have HSH := Lib.hid hsh2
  have HAE := Lib.hid hAe
  have HSL := Lib.hid hsl
  clear hsh hsh2 hAe hsl
  go_upto_region 4 with (fail)
  obtain ⟨U, hU⟩ : ∃ zz9, zz9 = (grow W0 g4) := ⟨_, rfl⟩
  have eU : Ext W0 U := by rw [hU]; exact (by repeat (first | exact Below.refl _ _ | refine Ext.al ?_ _ | refine Ext.dr ?_ | refine Ext.drN ?_ _ | refine Ext.gr ?_ _ | refine Ext.set ?_ (by simp) _ | (refine Ext.trans' ?_ (by assumption))))
  have eUc : Ext (grow W0 g4) U := by rw [hU]; exact (by repeat (first | exact Below.refl _ _ | refine Ext.al ?_ _ | refine Ext.dr ?_ | refine Ext.drN ?_ _ | refine Ext.gr ?_ _ | refine Ext.set ?_ (by simp) _ | (refine Ext.trans' ?_ (by assumption))))
  replace k0 := cell_ext eU k0
  replace HS := Lib.hid (HS.out.ext eU)
  replace HL := Lib.hid (HL.out.ext eU)
  replace HR := Lib.hid (HR.out.ext eUc)
  replace HW := Lib.hid (HW.out.trans' eU)
  rw [← hU]
  replace hz := World.block_lt_of_cell? _ _ k0
  clear hU eU eUc
  simp only at hz
  go_wp2_with fail
  rw [HSH.out]
  go_loopw [8, 9, 10] (fun bv fv iv W => ∃ (b : Nat) (o : Option (List Int)), b ≤ A ∧ iv = .int .i64 b ∧ o = bestTo ks.length (okW ks s) befB b ∧ fv = .bool o.isSome ∧ IsInts W .i64 bv (o.getD []) ∧ Ext U W) (fun _ _ iv _ => A - (intOf iv).toNat)
  case atStart => exact ⟨0, none, by omega, rfl, rfl, rfl, IsInts.nil _ _, Below.refl _ _⟩
  case round =>
    obtain ⟨b, o, hb, rfl, ho, rfl, hbest, hE⟩ := hrel
    obtain ⟨ba, bc, rfl, hb1, hb2, -⟩ := hbest.spec
    have k1 := cell_ext hE k0
    have hz1 := World.block_lt_of_cell? _ _ k1
    simp only at hz1
    have HO := Lib.hid ho
    have HB := Lib.hid hbest
    have HE := Lib.hid hE
    have HSr := Lib.hid (HS.out.ext hE)
    have HLr := Lib.hid (HL.out.ext hE)
    have HRr := Lib.hid (HR.out.ext hE)
    clear ho hbest hE
    by_cases hlt : b < A
    · have hbi : (b : Int) < (A : Int) := by omega
      have hbp : b < 2 ^ ks.length := by rw [← HAE.out]; exact hlt
      obtain ⟨C, hC⟩ : ∃ C, C = A - 1 - b := ⟨_, rfl⟩
      have hCi : (A : Int) - 1 - (b : Int) = (C : Int) := by omega
      have hCp : C < 2 ^ ks.length := by rw [← HAE.out]; omega
      have hw1 : IntKind.i64.wrap ((A : Int) - 1) = (A : Int) - 1 := IntWalk.i64_in _ (by omega)
      have hw2 : IntKind.i64.wrap ((A : Int) - 1 - (b : Int)) = (C : Int) := by rw [hCi]; exact IntWalk.i64_in _ (by omega)
      have hCe : C = 2 ^ ks.length - 1 - b := by rw [← HAE.out]; exact hC
      obtain ⟨q, hq⟩ : ∃ q, q = notIn (bitsL ks.length b) := ⟨_, rfl⟩
      have hokb : okW ks s (bitsL ks.length b) = !(leadsL ks q s).isEmpty := by rw [hq]; rfl
      have cp := fun sv pv W h1 h2 h3 => pulledC_any ks s b (.slice sa ks.length cap) sv pv W h1 h2 hbp h3 V.out HIS.out
      rw [← hq] at cp
      rw [← hCe] at cp
      obtain ⟨ok, hok⟩ : ∃ ok, ok = !fullP q ks s := ⟨_, rfl⟩
      obtain ⟨XL, hXL⟩ : ∃ XL, XL = (if fullP q ks s then [] else upP q s) := ⟨_, rfl⟩
      have HOKX := Lib.hid hok
      have HXLX := Lib.hid hXL
      have HBP := Lib.hid hbp
      have HCP := Lib.hid hCp
      have HQ := Lib.hid hokb
      have CP := Lib.hid cp
      clear hok hXL hbp hCp hokb cp hq hC hCi hCe
      go_upto_region 10 with (fail)
      obtain ⟨Y, hY⟩ : ∃ Y, Y = wr := ⟨_, rfl⟩
      subst hY
      refine wp_region_rove (Y.heap.size) (Nat.le_refl _)
        [sqV (.agg #[.slice sa ks.length cap]),
         sqV (.slice la s.length lcap),
         sqV (.int .i64 A),
         sqV (.int .i64 (A - 1)),
         sqV (.int .i64 b),
         sqV (.int .i64 C),
         sqW (fun v W => IsInts W .i64 v (bitsL ks.length C)) (fun _ _ _ h e => IsInts.ext e h),
         sqW (fun v W => ∃ r, v = .tuple #[r, .bool ok] ∧ IsInts W .i64 r XL) (fun _ _ _ ⟨r, h1, h2⟩ e => ⟨r, h1, IsInts.ext e h2⟩),
         sqW (fun v W => ∃ r, v = .tuple #[r, .bool ok] ∧ IsInts W .i64 r XL) (fun _ _ _ ⟨r, h1, h2⟩ e => ⟨r, h1, IsInts.ext e h2⟩),
         sqW (fun v W => IsInts W .i64 v XL) (fun _ _ _ h e => IsInts.ext e h),
         sqV (.bool ok),
         sqW (fun v W => IsInts W .i64 v XL) (fun _ _ _ h e => IsInts.ext e h),
         sqV (.bool ok)]
        [true, true, true, true, true, true, false, false, false, false, true, false, true] [false, false, false, false, false, false, false, false, false, false, false, false, false] [true, true, true, true, true, true, true, true, true, true, true, true, true] [true, true, true, true, true, true, true, true, true, true, true, true, true]
        (by kernel_rfl) (by kernel_rfl) (by decide +kernel) (by decide +kernel) (by decide +kernel) rfl ⟨rfl, rfl⟩ ⟨?s0, ?s1, ?s2, ?s3, ?s4, ?s5, ?s6, ?s7, ?s8, ?s9, ?s10, ?s11, ?s12, trivial⟩ [some 31, some 32, some 33, some 34, some 35, some 36, some 37, some 38, some 30, some 39, some 40, some 11, some 12] rfl rfl ?send
      case s0 =>
        intro val ρ W hE hz hd hA hx
        have o0 : ρ (.tmp 2) = .pointer (some ⟨w.heap.size, 0, none⟩) := hA.old 2 (by decide)
        have f_k1 := cell_below hE (by simp only; omega) k1
        clear hd
        exact runq_val (W' := W) (by simp [execOp, o0, f_k1, go_sem]) (Below.refl _ _) rfl
      case s1 =>
        intro val ρ W hE hz hd hA hx
        have o0 : ρ (.tmp 1) = .slice la s.length lcap := hA.old 1 (by decide)
        clear hd
        exact runq_val (W' := W) (by simp [execOp, o0, go_sem]) (Below.refl _ _) rfl
      case s2 =>
        intro val ρ W hE hz hd hA hx
        have o0 : ρ (.tmp 7) = .int .i64 A := hA.old 7 (by decide)
        clear hd
        exact runq_val (W' := W) (by simp [execOp, o0, go_sem]) (Below.refl _ _) rfl
      case s3 =>
        intro val ρ W hE hz hd hA hx
        have d2 : ρ (.tmp 33) = .int .i64 A := (hA.dep 2 (by decide) 33 rfl).trans (hd 2 (by decide))
        clear hd
        exact runq_val (W' := W) (by simp [execOp, hA.const, d2, hw1, go_sem]) (Below.refl _ _) rfl
      case s4 =>
        intro val ρ W hE hz hd hA hx
        have o0 : ρ (.tmp 10) = .int .i64 b := hA.old 10 (by decide)
        clear hd
        exact runq_val (W' := W) (by simp [execOp, o0, go_sem]) (Below.refl _ _) rfl
      case s5 =>
        intro val ρ W hE hz hd hA hx
        have d3 : ρ (.tmp 34) = .int .i64 (A - 1) := (hA.dep 3 (by decide) 34 rfl).trans (hd 3 (by decide))
        have d4 : ρ (.tmp 35) = .int .i64 b := (hA.dep 4 (by decide) 35 rfl).trans (hd 4 (by decide))
        clear hd
        exact runq_val (W' := W) (by simp [execOp, d3, d4, hw2, go_sem]) (Below.refl _ _) rfl
      case s12 =>
        intro val ρ W hE hz hd hA hx
        have d10 : ρ (.tmp 40) = .bool ok := (hA.dep 10 (by decide) 40 rfl).trans (hd 10 (by decide))
        clear hd
        exact runq_val (W' := W) (by simp [execOp, d10, go_sem]) (Below.refl _ _) rfl
      case s6 =>
        intro val ρ W hE hz hd hA hx
        have d5 : ρ (.tmp 36) = .int .i64 C := (hA.dep 5 (by decide) 36 rfl).trans (hd 5 (by decide))
        clear hd
        refine runq_call 48 _ _ rfl #[.int .i64 C] (hA.func _) (by simp [d5]) (fun args W => Try.call48 args W) ((bitsR5_any ks.length C (by omega) HCP.out W).mono ?_)
        rintro e w' ⟨v, rfl, hb, hi⟩
        exact ⟨_, rfl, hb, hi⟩
      case s7 =>
        intro val ρ W hE hz hd hA hx
        have d0 : ρ (.tmp 31) = .agg #[.slice sa ks.length cap] := (hA.dep 0 (by decide) 31 rfl).trans (hd 0 (by decide))
        have d1 : ρ (.tmp 32) = .slice la s.length lcap := (hA.dep 1 (by decide) 32 rfl).trans (hd 1 (by decide))
        have q6 : IsInts W .i64 (val 6) (bitsL ks.length C) := hd 6 (by decide)
        have d6 : ρ (.tmp 37) = val 6 := hA.dep 6 (by decide) 37 rfl
        clear hd
        refine runq_call 49 _ _ rfl #[.agg #[.slice sa ks.length cap], .slice la s.length lcap, val 6] (hA.func _) (by simp [d0, d1, d6]) (fun args W => Try.call49 args W) ((CP.out _ _ W (HSr.out.ext hE) (HLr.out.ext hE) q6).mono ?_)
        rintro e w' ⟨v, rfl, hb, hi⟩
        exact ⟨_, rfl, hb, v, by rw [HOKX.out], by rw [HXLX.out]; exact hi⟩
      case s8 =>
        intro val ρ W hE hz hd hA hx
        obtain ⟨r, h1, h2⟩ : ∃ r, val 7 = .tuple #[r, .bool ok] ∧ IsInts W .i64 r XL := hd 7 (by decide)
        have dd : ρ (.tmp 38) = .tuple #[r, .bool ok] := (hA.dep 7 (by decide) 38 rfl).trans h1
        exact runq_val (W' := W) (v := .tuple #[r, .bool ok]) (by simp [execOp, dd, go_sem]) (Below.refl _ _) ⟨r, rfl, h2⟩
      case s9 =>
        intro val ρ W hE hz hd hA hx
        obtain ⟨r, h1, h2⟩ : ∃ r, val 8 = .tuple #[r, .bool ok] ∧ IsInts W .i64 r XL := hd 8 (by decide)
        have dd : ρ (.tmp 30) = .tuple #[r, .bool ok] := (hA.dep 8 (by decide) 30 rfl).trans h1
        exact runq_val (W' := W) (v := r) (by simp [execOp, dd, go_sem]) (Below.refl _ _) h2
      case s10 =>
        intro val ρ W hE hz hd hA hx
        obtain ⟨r, h1, h2⟩ : ∃ r, val 8 = .tuple #[r, .bool ok] ∧ IsInts W .i64 r XL := hd 8 (by decide)
        have dd : ρ (.tmp 30) = .tuple #[r, .bool ok] := (hA.dep 8 (by decide) 30 rfl).trans h1
        exact runq_val (W' := W) (v := .bool ok) (by simp [execOp, dd, go_sem]) (Below.refl _ _) rfl
      case s11 =>
        intro val ρ W hE hz hd hA hx
        have qx : IsInts W .i64 (val 9) XL := hd 9 (by decide)
        have dx : ρ (.tmp 39) = val 9 := hA.dep 9 (by decide) 39 rfl
        exact runq_val (W' := W) (v := val 9) (by simp [execOp, dx, go_sem]) (Below.refl _ _) qx
      case send =>
        intro val WW hE hzz hv
        obtain ⟨-, -, -, -, -, -, -, -, -, -, -, q8, q9, -⟩ := hv
        have q9' : val 12 = .bool ok := q9
        replace q8 : IsInts WW .i64 (val 11) XL := q8
        obtain ⟨X8, hX8⟩ : ∃ X8, X8 = val 11 := ⟨_, rfl⟩
        rw [← hX8] at q8
        simp only [putD, q9', ← hX8]
        go_frame
        clear q9 q9' hX8 hzz
        obtain ⟨xa, xc, rfl, -, -, -⟩ := q8.spec
        have HX8 := Lib.hid q8
        clear q8
        have hEW : Ext Y WW := hE
        have HEW := Lib.hid (HE.out.trans' hEW)
        have HSW := Lib.hid (HSr.out.ext hEW)
        have HRW := Lib.hid (HRr.out.ext hEW)
        have HBW := Lib.hid (HB.out.ext hEW)
        have k2 := cell_ext hEW k1
        have hz2 := World.block_lt_of_cell? _ _ k2
        simp only at hz2
        clear hE hEW
        cases ok
        · have hf : fullP q ks s = true := by have := HOKX.out; cases h : fullP q ks s <;> simp [h] at this ⊢
          have hno : okW ks s (bitsL ks.length b) = false := by rw [HQ.out, leadsL_eq, hf]; rfl
          have HNO := Lib.hid (bestTo_no (bef := befB) hno)
          clear hf hno
          go_wp2_with fail
          go_roundw
          case rel => exact ⟨b + 1, o, by omega, by go_num, by rw [HNO.out]; exact HO.out, rfl, HBW.out, HEW.out⟩
          case measure => simp [intOf]; omega
        · have hf : fullP q ks s = false := by have := HOKX.out; cases h : fullP q ks s <;> simp [h] at this ⊢
          have hxl : XL = upP q s := by rw [HXLX.out, hf]; rfl
          have hll : leadsL ks q s = leadsK ks XL ks.length := by rw [leadsL_eq, hf, hxl]; rfl
          have hxs := up_st HIS.out hf
          rw [← hxl] at hxs
          have cl := fun W h1 h2 h3 => leadsR_any ks XL (.slice sa ks.length cap) (.slice ra (rowsL ks (rkN ks)).length rc) (.slice xa XL.length xc) W h1 h2 h3 V.out hxs
          rw [← hll] at cl
          obtain ⟨L, hL⟩ : ∃ L, L = leadsL ks q s := ⟨_, rfl⟩
          rw [← hL] at cl HQ
          have CL := Lib.hid cl
          clear hf hxl hll hxs cl hL HXLX HOKX



          go_wp2_with fail
          refine callWR (W0 := WW) (g := ⟨WW, Below.refl _ _⟩) (by exact (by repeat (first | exact Below.refl _ _ | refine Ext.al ?_ _ | refine Ext.dr ?_ | refine Ext.drN ?_ _ | refine Ext.gr ?_ _ | refine Ext.set ?_ (by simp) _ | (refine Ext.trans' ?_ (by assumption))))) (CL.out _ (HSW.out.ext (by exact (by repeat (first | exact Below.refl _ _ | refine Ext.al ?_ _ | refine Ext.dr ?_ | refine Ext.drN ?_ _ | refine Ext.gr ?_ _ | refine Ext.set ?_ (by simp) _ | (refine Ext.trans' ?_ (by assumption)))))) (HRW.out.ext (by exact (by repeat (first | exact Below.refl _ _ | refine Ext.al ?_ _ | refine Ext.dr ?_ | refine Ext.drN ?_ _ | refine Ext.gr ?_ _ | refine Ext.set ?_ (by simp) _ | (refine Ext.trans' ?_ (by assumption)))))) (HX8.out.ext (by exact (by repeat (first | exact Below.refl _ _ | refine Ext.al ?_ _ | refine Ext.dr ?_ | refine Ext.drN ?_ _ | refine Ext.gr ?_ _ | refine Ext.set ?_ (by simp) _ | (refine Ext.trans' ?_ (by assumption))))))) (fun _ _ ⟨_, _, r, _⟩ => r) fun _ g1 hgr hr => ?_
          obtain ⟨lv, rfl, -, hI⟩ := hr
          clear hgr
          obtain ⟨a1, c1, rfl, -⟩ := hI.spec
          clear hI
          cases L with
          | nil =>
            have HNO := Lib.hid (bestTo_no (bef := befB) (show okW ks s (bitsL ks.length b) = false from HQ.out))
            go_wp2_with fail
            go_roundw
            case rel => exact ⟨b + 1, o, by omega, by go_num, by rw [HNO.out]; exact HO.out, rfl, HBW.out.ext (grow_below WW _), HEW.out.trans' (grow_below WW _)⟩
            case measure => simp [intOf]; omega
          | cons y l =>
            have hyes : okW ks s (bitsL ks.length b) = true := HQ.out
            have hlz : decide ((0 : Int) < ((y :: l).length : Int)) = true := decide_eq_true (by rw [List.length_cons]; omega)
            have hlz2 : decide ((0 : Int) < (l.length : Int) + 1) = true := decide_eq_true (by omega)
            cases o with
            | none =>
              have HN := Lib.hid (bestTo_new (bef := befB) hyes HO.out.symm)
              clear hyes

              go_wp2_with fail
              refine callWR (W0 := WW) (g := g1) (by exact (by repeat (first | exact Below.refl _ _ | refine Ext.al ?_ _ | refine Ext.dr ?_ | refine Ext.drN ?_ _ | refine Ext.gr ?_ _ | refine Ext.set ?_ (by simp) _ | (refine Ext.trans' ?_ (by assumption))))) (bitsR5_any ks.length b (by omega) HBP.out _) (fun _ _ ⟨_, _, r, _⟩ => r) fun _ g2 hgr hr => ?_
              obtain ⟨bv, rfl, -, hI⟩ := hr
              clear hgr
              obtain ⟨a2, c2, rfl, -⟩ := hI.spec
              have HI := Lib.hid hI
              clear hI
              go_wp2_with fail
              go_roundw
              case rel => exact ⟨b + 1, some (bitsL ks.length b), by omega, by go_num, HN.out.symm, rfl, HI.out, HEW.out.trans' (grow_below WW _)⟩
              case measure => simp [intOf]; omega

            | some l0 =>
              have HN := Lib.hid (bestTo_cmp (bef := befB) hyes HO.out.symm)
              clear hyes

              go_wp2_with fail
              refine callWR (W0 := WW) (g := g1) (by exact (by repeat (first | exact Below.refl _ _ | refine Ext.al ?_ _ | refine Ext.dr ?_ | refine Ext.drN ?_ _ | refine Ext.gr ?_ _ | refine Ext.set ?_ (by simp) _ | (refine Ext.trans' ?_ (by assumption))))) (bitsR5_any ks.length b (by omega) HBP.out _) (fun _ _ ⟨_, _, r, _⟩ => r) fun _ g3 hgr hr => ?_
              obtain ⟨bv, rfl, -, hI⟩ := hr
              clear hgr
              obtain ⟨a2, c2, rfl, -⟩ := hI.spec
              have HI := Lib.hid hI
              clear hI

              go_wp2_with fail
              refine callW (W0 := WW) (g := g3) (by exact (by repeat (first | exact Below.refl _ _ | refine Ext.al ?_ _ | refine Ext.dr ?_ | refine Ext.drN ?_ _ | refine Ext.gr ?_ _ | refine Ext.set ?_ (by simp) _ | (refine Ext.trans' ?_ (by assumption))))) (beforeR_any (bitsL ks.length b) l0 _ _ _ (HI.out.ext (by exact (by repeat (first | exact Below.refl _ _ | refine Ext.al ?_ _ | refine Ext.dr ?_ | refine Ext.drN ?_ _ | refine Ext.gr ?_ _ | refine Ext.set ?_ (by simp) _ | (refine Ext.trans' ?_ (by assumption)))))) (HBW.out.ext (by exact (by repeat (first | exact Below.refl _ _ | refine Ext.al ?_ _ | refine Ext.dr ?_ | refine Ext.drN ?_ _ | refine Ext.gr ?_ _ | refine Ext.set ?_ (by simp) _ | (refine Ext.trans' ?_ (by assumption))))))) fun g4 hgr => ?_
              replace HI := Lib.hid (HI.out.ext hgr)
              clear hgr
              cases hbf : befB (bitsL ks.length b) l0
              · rw [hbf, if_neg (by simp)] at HN
                clear hbf
                go_wp2_with fail
                go_roundw
                case rel => exact ⟨b + 1, some l0, by omega, by go_num, HN.out.symm, rfl, HBW.out.ext (grow_below WW _), HEW.out.trans' (grow_below WW _)⟩
                case measure => simp [intOf]; omega
              · rw [hbf, if_pos rfl] at HN
                clear hbf
                go_wp2_with fail
                refine callWR (W0 := WW) (g := g4) (by exact (by repeat (first | exact Below.refl _ _ | refine Ext.al ?_ _ | refine Ext.dr ?_ | refine Ext.drN ?_ _ | refine Ext.gr ?_ _ | refine Ext.set ?_ (by simp) _ | (refine Ext.trans' ?_ (by assumption))))) (bitsR5_any ks.length b (by omega) HBP.out _) (fun _ _ ⟨_, _, r, _⟩ => r) fun _ g5 hgr hr => ?_
                obtain ⟨bv, rfl, -, hI⟩ := hr
                replace HI := Lib.hid (HI.out.ext hgr)
                clear hgr
                obtain ⟨a3, c3, rfl, -⟩ := hI.spec
                have HI3 := Lib.hid hI
                clear hI
                go_wp2_with fail
                go_roundw
                case rel => exact ⟨b + 1, some (bitsL ks.length b), by omega, by go_num, HN.out.symm, rfl, HI3.out, HEW.out.trans' (grow_below WW _)⟩
                case measure => simp [intOf]; omega

    · have hbA : b = 2 ^ ks.length := by have := HAE.out; omega
      have hbi : ¬ ((b : Int) < (A : Int)) := by omega
      have hw : waitL ks s = o := by
        rw [HO.out, hbA, bestTo_find befB_iff]; rfl
      have hne : ¬ stErr ks s ≠ 0 := fun h => h HC.out
      have HWL := Lib.hid hw
      have HNE := Lib.hid hne
      clear hbA hw hne
      cases o with
      | none =>
        go_wp2_with fail
        refine bodyPost_ret (v := .tuple #[.slice none 0 0, .int .i64 17]) (by simp [results, Try.results41, go_sem]) rfl ?_
        exact ⟨_, by unfold waitErr; rw [if_neg HNE.out, HWL.out]; rfl, HW.out.trans' HE.out, by unfold waitLL; rw [if_neg HNE.out, HWL.out]; exact IsInts.nil _ _⟩
      | some l0 =>
        go_wp2_with fail
        refine bodyPost_ret (by simp [results, Try.results41, go_sem]; rfl) rfl ?_
        exact ⟨_, by unfold waitErr; rw [if_neg HNE.out, HWL.out]; rfl, HW.out.trans' HE.out, by unfold waitLL; rw [if_neg HNE.out, HWL.out]; exact HB.out⟩
end Go.Proofs.Ytndgaklcnhoddaa
