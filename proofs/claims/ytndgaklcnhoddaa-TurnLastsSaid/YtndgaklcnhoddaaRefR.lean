/-
  The walk of the reference's Lasts.
-/
import Derived.Test.YtndgaklcnhoddaaRefO
import Derived.Test.YtndgaklcnhoddaaWe
namespace Go.Proofs.Ytndgaklcnhoddaa
open Go.RowKit Go.Shelf
theorem rowOf_iff {ks x : List Int} {r : Nat} : rowOf (nxS ks) x = r ↔ Rk (nxS ks) x r := by
  constructor
  · intro h
    rcases rowOf_cases (nxS ks) x with ⟨e, _⟩ | ⟨q, e, hq⟩
    · omega
    · have : q = r := by omega
      rw [← this]; exact hq
  · exact rowOf_rk
set_option maxRecDepth 100000 in
set_option maxHeartbeats 8000000 in
theorem lastsR_any (ks s : List Int) (kv lv : Value) (w : World) (hv : IsInts w .i64 kv ks) (hl : IsInts w .i64 lv s) :
    Calls Try.prog 43 #[.agg #[kv], lv] w (RetL (lastsL ks s) (lastsErr ks s) w) := by
  obtain ⟨sa, cap, rfl, h1, h2, -⟩ := hv.spec
  obtain ⟨la, lcap, rfl, h3, h4, -⟩ := hl.spec
  have HV := Lib.hid hv
  have HL0 := Lib.hid hl
  clear hv hl
  go_enter Try.func43, Try.ntmps43
  go_upto_region 1 with (fail)
  obtain ⟨W0, hW0⟩ : ∃ W0, W0 = w.alloc (.cells #[.slice sa ks.length cap] 24) := ⟨_, rfl⟩
  have hE : Ext w W0 := by rw [hW0]; exact (by repeat (first | exact Below.refl _ _ | refine Ext.al ?_ _ | refine Ext.dr ?_ | refine Ext.drN ?_ _ | refine Ext.gr ?_ _ | refine Ext.set ?_ (by simp) _ | (refine Ext.trans' ?_ (by assumption))))
  have k0 : W0.cell? ⟨w.heap.size, 0, none⟩ = some (.slice sa ks.length cap) := by rw [hW0]; simp [go_sem]
  have hz : w.heap.size < W0.heap.size := World.block_lt_of_cell? _ _ k0
  have HS := Lib.hid (HV.out.ext hE)
  have HW := Lib.hid hE
  rw [← hW0]
  clear hW0 HV
  have HL := Lib.hid (HL0.out.ext hE)
  clear hE HL0
  obtain ⟨er, her⟩ : ∃ er, er = stErr ks s := ⟨_, rfl⟩
  have c1 := fun W h1 h2 => statedR_any ks s (.slice sa ks.length cap) (.slice la s.length lcap) W h1 h2
  simp only [← her] at c1
  have C1 := Lib.hid c1
  have HER := Lib.hid her
  clear c1 her



  by_cases hc : er = 0
  rotate_left
  · have e1 : (er == 0) = false := by simpa using hc
    have e2 : (er != 0) = true := by simpa using hc
    have HC := Lib.hid hc
    clear hc

    go_wp2_with fail
    refine callW (W0 := W0) (g := ⟨W0, Below.refl _ _⟩) (by exact (by repeat (first | exact Below.refl _ _ | refine Ext.al ?_ _ | refine Ext.dr ?_ | refine Ext.drN ?_ _ | refine Ext.gr ?_ _ | refine Ext.set ?_ (by simp) _ | (refine Ext.trans' ?_ (by assumption))))) (C1.out _ (HS.out.ext (by exact (by repeat (first | exact Below.refl _ _ | refine Ext.al ?_ _ | refine Ext.dr ?_ | refine Ext.drN ?_ _ | refine Ext.gr ?_ _ | refine Ext.set ?_ (by simp) _ | (refine Ext.trans' ?_ (by assumption)))))) (HL.out.ext (by exact (by repeat (first | exact Below.refl _ _ | refine Ext.al ?_ _ | refine Ext.dr ?_ | refine Ext.drN ?_ _ | refine Ext.gr ?_ _ | refine Ext.set ?_ (by simp) _ | (refine Ext.trans' ?_ (by assumption))))))) fun g1 hgr => ?_
    clear hgr
    go_wp2_with fail
    refine callW (W0 := W0) (g := g1) (by exact (by repeat (first | exact Below.refl _ _ | refine Ext.al ?_ _ | refine Ext.dr ?_ | refine Ext.drN ?_ _ | refine Ext.gr ?_ _ | refine Ext.set ?_ (by simp) _ | (refine Ext.trans' ?_ (by assumption))))) (C1.out _ (HS.out.ext (by exact (by repeat (first | exact Below.refl _ _ | refine Ext.al ?_ _ | refine Ext.dr ?_ | refine Ext.drN ?_ _ | refine Ext.gr ?_ _ | refine Ext.set ?_ (by simp) _ | (refine Ext.trans' ?_ (by assumption)))))) (HL.out.ext (by exact (by repeat (first | exact Below.refl _ _ | refine Ext.al ?_ _ | refine Ext.dr ?_ | refine Ext.drN ?_ _ | refine Ext.gr ?_ _ | refine Ext.set ?_ (by simp) _ | (refine Ext.trans' ?_ (by assumption))))))) fun g2 hgr => ?_
    clear hgr
    go_wp2_with fail
    refine bodyPost_ret (v := .tuple #[.slice none 0 0, .int .i64 er]) (by simp [results, Try.results43, go_sem]) rfl ?_
    have hne : stErr ks s ≠ 0 := by rw [← HER.out]; exact HC.out
    have he : lastsErr ks s = er := by unfold lastsErr; rw [if_pos hne, HER.out]
    exact ⟨_, by rw [he], HW.out.trans' (grow_below W0 _), by unfold lastsL; rw [if_neg (by rw [he]; exact HC.out)]; exact IsInts.nil _ _⟩

  obtain ⟨v, hsi⟩ := stErr_ok (HER.out.symm.trans hc)
  have HC := Lib.hid (HER.out.symm.trans hc)
  have V := Lib.hid v
  have HIS := Lib.hid hsi
  subst hc
  clear v hsi
  have n1 := V.out.n1
  have n5 := V.out.n5
  go_wp2_with fail
  refine callW (W0 := W0) (g := ⟨W0, Below.refl _ _⟩) (by exact (by repeat (first | exact Below.refl _ _ | refine Ext.al ?_ _ | refine Ext.dr ?_ | refine Ext.drN ?_ _ | refine Ext.gr ?_ _ | refine Ext.set ?_ (by simp) _ | (refine Ext.trans' ?_ (by assumption))))) (C1.out _ (HS.out.ext (by exact (by repeat (first | exact Below.refl _ _ | refine Ext.al ?_ _ | refine Ext.dr ?_ | refine Ext.drN ?_ _ | refine Ext.gr ?_ _ | refine Ext.set ?_ (by simp) _ | (refine Ext.trans' ?_ (by assumption)))))) (HL.out.ext (by exact (by repeat (first | exact Below.refl _ _ | refine Ext.al ?_ _ | refine Ext.dr ?_ | refine Ext.drN ?_ _ | refine Ext.gr ?_ _ | refine Ext.set ?_ (by simp) _ | (refine Ext.trans' ?_ (by assumption))))))) fun g3 hgr => ?_
  clear hgr
  go_wp2_with fail
  refine callWR (W0 := W0) (g := g3) (by exact (by repeat (first | exact Below.refl _ _ | refine Ext.al ?_ _ | refine Ext.dr ?_ | refine Ext.drN ?_ _ | refine Ext.gr ?_ _ | refine Ext.set ?_ (by simp) _ | (refine Ext.trans' ?_ (by assumption))))) (rowsR_any ks _ _ (HS.out.ext (by exact (by repeat (first | exact Below.refl _ _ | refine Ext.al ?_ _ | refine Ext.dr ?_ | refine Ext.drN ?_ _ | refine Ext.gr ?_ _ | refine Ext.set ?_ (by simp) _ | (refine Ext.trans' ?_ (by assumption)))))) V.out) (fun _ _ ⟨_, _, r, _⟩ => r) fun _ g4 hgr hr => ?_
  obtain ⟨r, rfl, -, hR⟩ := hr
  clear hgr
  have hLl := rowsL_len ks (rkN ks)
  have hLa := fun X h => rowsL_at ks (rkN ks) (i := X) h
  have HIL := Lib.hid (fun (W : World) (v : Value) (h : IsInts W .i64 v (rowsL ks (rkN ks))) => h)
  obtain ⟨LL, hLe⟩ : ∃ L, L = rowsL ks (rkN ks) := ⟨_, rfl⟩
  rw [← hLe] at hR hLl hLa
  obtain ⟨ra, rc, rfl, -⟩ := hR.spec
  have HR := Lib.hid hR
  have HLL := Lib.hid hLl
  have HLA := Lib.hid hLa
  have HLE := Lib.hid hLe
  clear hR hLl hLa hLe HIL

  obtain ⟨sf, hsf⟩ : ∃ sf, sf = decide (rkN ks (numS ks s) < 0) := ⟨_, rfl⟩
  have cs := fun W h1 (h2 : IsInts W .i64 (.slice ra LL.length rc) LL) h3 => isSafeR_any ks s (rkN ks) (.slice sa ks.length cap) (.slice ra LL.length rc) (.slice la s.length lcap) W h1 (by rw [← HLE.out]; exact h2) h3 V.out HIS.out
  rw [← hsf] at cs
  rw [rkN_num V.out HIS.out] at hsf
  have CS := Lib.hid cs
  have HSF := Lib.hid hsf
  clear cs hsf
  go_wp2_with fail
  refine callW (W0 := W0) (g := g4) (by exact (by repeat (first | exact Below.refl _ _ | refine Ext.al ?_ _ | refine Ext.dr ?_ | refine Ext.drN ?_ _ | refine Ext.gr ?_ _ | refine Ext.set ?_ (by simp) _ | (refine Ext.trans' ?_ (by assumption))))) (CS.out _ (HS.out.ext (by exact (by repeat (first | exact Below.refl _ _ | refine Ext.al ?_ _ | refine Ext.dr ?_ | refine Ext.drN ?_ _ | refine Ext.gr ?_ _ | refine Ext.set ?_ (by simp) _ | (refine Ext.trans' ?_ (by assumption)))))) (HR.out.ext (by exact (by repeat (first | exact Below.refl _ _ | refine Ext.al ?_ _ | refine Ext.dr ?_ | refine Ext.drN ?_ _ | refine Ext.gr ?_ _ | refine Ext.set ?_ (by simp) _ | (refine Ext.trans' ?_ (by assumption)))))) (HL.out.ext (by exact (by repeat (first | exact Below.refl _ _ | refine Ext.al ?_ _ | refine Ext.dr ?_ | refine Ext.drN ?_ _ | refine Ext.gr ?_ _ | refine Ext.set ?_ (by simp) _ | (refine Ext.trans' ?_ (by assumption))))))) fun g5 hgr => ?_
  replace HR := Lib.hid (HR.out.ext hgr)
  clear hgr
  have hne : ¬ stErr ks s ≠ 0 := fun h => h HC.out
  have HNE := Lib.hid hne
  clear hne
  cases sf
  rotate_left
  · have hneg : rowOf (nxS ks) s < 0 := of_decide_eq_true HSF.out.symm
    have he : lastsErr ks s = 5 := by unfold lastsErr; rw [if_neg HNE.out, if_pos hneg]
    have HE5 := Lib.hid he
    clear hneg he
    go_wp2_with fail
    refine bodyPost_ret (v := .tuple #[.slice none 0 0, .int .i64 5]) (by simp [results, Try.results43, go_sem]) rfl ?_
    exact ⟨_, by rw [HE5.out], HW.out.trans' (grow_below W0 _), by unfold lastsL; rw [if_neg (by rw [HE5.out]; decide)]; exact IsInts.nil _ _⟩
  have hneg : ¬ rowOf (nxS ks) s < 0 := of_decide_eq_false HSF.out.symm
  obtain ⟨r0, hr0⟩ : ∃ r0 : Nat, rowOf (nxS ks) s = r0 := ⟨(rowOf (nxS ks) s).toNat, by omega⟩
  have he : lastsErr ks s = 0 := by unfold lastsErr; rw [if_neg HNE.out, if_neg hneg]
  have hll : lastsL ks s = lastG ks r0 s := by unfold lastsL; rw [if_pos he, hr0]; rfl
  have hrk := rowOf_iff.1 hr0
  obtain ⟨X0, hX0, hX0n⟩ := num_nat V.out HIS.out
  have hrx : rkN ks (X0 : Int) = (r0 : Int) := by rw [← hX0, rkN_num V.out HIS.out, hr0]
  have hr1000 : r0 < 1000 := by have := rkN_bd V.out (X0 : Int); omega
  have ci := fun W h1 h2 => indexR_any ks s (.slice sa ks.length cap) (.slice la s.length lcap) W h1 h2 V.out HIS.out
  rw [hX0] at ci
  have CI := Lib.hid ci
  have HE0 := Lib.hid he
  have HLG := Lib.hid hll
  have HRK := Lib.hid hrk
  have HRX := Lib.hid hrx
  clear hneg hr0 he hll hrk hX0 hrx ci
  go_wp2_with fail
  refine callW (W0 := W0) (g := g5) (by exact (by repeat (first | exact Below.refl _ _ | refine Ext.al ?_ _ | refine Ext.dr ?_ | refine Ext.drN ?_ _ | refine Ext.gr ?_ _ | refine Ext.set ?_ (by simp) _ | (refine Ext.trans' ?_ (by assumption))))) (CI.out _ (HS.out.ext (by exact (by repeat (first | exact Below.refl _ _ | refine Ext.al ?_ _ | refine Ext.dr ?_ | refine Ext.drN ?_ _ | refine Ext.gr ?_ _ | refine Ext.set ?_ (by simp) _ | (refine Ext.trans' ?_ (by assumption)))))) (HL.out.ext (by exact (by repeat (first | exact Below.refl _ _ | refine Ext.al ?_ _ | refine Ext.dr ?_ | refine Ext.drN ?_ _ | refine Ext.gr ?_ _ | refine Ext.set ?_ (by simp) _ | (refine Ext.trans' ?_ (by assumption))))))) fun g6 hgr => ?_
  replace HR := Lib.hid (HR.out.ext hgr)
  clear hgr
  obtain ⟨U, hU⟩ : ∃ zz9, zz9 = (grow W0 g6) := ⟨_, rfl⟩
  have eU : Ext W0 U := by rw [hU]; exact (by repeat (first | exact Below.refl _ _ | refine Ext.al ?_ _ | refine Ext.dr ?_ | refine Ext.drN ?_ _ | refine Ext.gr ?_ _ | refine Ext.set ?_ (by simp) _ | (refine Ext.trans' ?_ (by assumption))))
  have eUc : Ext (grow W0 g6) U := by rw [hU]; exact (by repeat (first | exact Below.refl _ _ | refine Ext.al ?_ _ | refine Ext.dr ?_ | refine Ext.drN ?_ _ | refine Ext.gr ?_ _ | refine Ext.set ?_ (by simp) _ | (refine Ext.trans' ?_ (by assumption))))
  replace k0 := cell_ext eU k0
  replace HS := Lib.hid (HS.out.ext eU)
  replace HL := Lib.hid (HL.out.ext eU)
  replace HR := Lib.hid (HR.out.ext eUc)
  replace HW := Lib.hid (HW.out.trans' eU)
  rw [← hU]
  replace hz := World.block_lt_of_cell? _ _ k0
  clear hU eU eUc
  simp only at hz
  obtain ⟨b, off, rfl, hbz, HRC⟩ := HR.out.at_all (by have := HLL.out; omega)
  have hcc : ∀ W, Ext U W → ∀ i, i < nSt ks → W.cell? ⟨b, off + i, none⟩ = some (.int .i64 (rkN ks i)) := fun W hW i hi => by
    rw [HRC W hW i (by rw [HLL.out]; exact hi), HLA.out i hi]
  have d0 := hcc U (Below.refl _ _) X0 hX0n
  rw [HRX.out] at d0
  have HCC := Lib.hid hcc
  have hXi : (X0 : Int) < (LL.length : Int) := by have := HLL.out; omega
  clear HRC hcc
  go_wp2_with fail
  go_loopw [1, 7, 8] (fun sv a iv W => ∃ (k : Nat) (t O : List Int), k ≤ r0 ∧ iv = .int .i64 k ∧ isSt ks t = true ∧ Rk (nxS ks) t k ∧ lastG ks r0 s = O ++ lastG ks k t ∧ O.length + k = r0 ∧ IsInts W .i64 sv t ∧ Owns W U.heap.size 3 1 a (O.map iRow) ∧ Ext U W) (fun _ _ iv _ => (intOf iv).toNat)
  case atStart => exact ⟨r0, s, [], Nat.le_refl _, rfl, HIS.out, HRK.out, rfl, by simp, HL.out, Owns.nil _ _ _ _, Below.refl _ _⟩
  case round =>
    obtain ⟨k, t, O, hk, rfl, hts, htr, hlg, hOl, hti, hown, hE⟩ := hrel
    obtain ⟨ta, tc, rfl, ht1, ht2, -⟩ := hti.spec
    obtain ⟨oa, on, oc, rfl⟩ := hown.isSlice
    have k1 := cell_ext hE k0
    have hz1 := World.block_lt_of_cell? _ _ k1
    simp only at hz1
    have HTS := Lib.hid hts
    have HTR := Lib.hid htr
    have HLG2 := Lib.hid hlg
    have HTI := Lib.hid hti
    have HO := Lib.hid hown
    have HE := Lib.hid hE
    have HSr := Lib.hid (HS.out.ext hE)
    clear hts htr hlg hti hown hE
    by_cases hlt : 0 < k
    · obtain ⟨k, rfl⟩ : ∃ j, k = j + 1 := ⟨k - 1, by omega⟩
      have hkd : decide ((0 : Int) < ((k : Int) + 1)) = true := decide_eq_true (by omega)
      have hkd2 : decide ((0 : Int) < ((k + 1 : Nat) : Int)) = true := decide_eq_true (by omega)
      obtain ⟨c, hck, hf, hcr, hcl, hcm⟩ := lastG_step HTR.out
      go_upto_region 10 with (fail)
      obtain ⟨Y, hY⟩ : ∃ Y, Y = wr := ⟨_, rfl⟩
      subst hY
      have HF := Lib.hid hf
      have HCR := Lib.hid hcr
      have HCL := Lib.hid hcl
      have HCM := Lib.hid hcm
      clear hf hcr hcl hcm
      obtain ⟨ok, hok⟩ : ∃ ok, ok = !fullP allW ks (t) := ⟨_, rfl⟩
      obtain ⟨XL, hXL⟩ : ∃ XL, XL = (if fullP allW ks (t) then [] else upP allW (t)) := ⟨_, rfl⟩
      have HOKX := Lib.hid hok
      have HXLX := Lib.hid hXL
      clear hok hXL
      refine wp_region_rove (Y.heap.size) (Nat.le_refl _)
        [sqV (.agg #[.slice sa ks.length cap]),
         sqV (.slice ta t.length tc),
         sqV (.agg #[.slice sa ks.length cap]),
         sqW (fun v W => IsInts W .i64 v (upL ks.length)) (fun _ _ _ h e => IsInts.ext e h),
         sqW (fun v W => ∃ r, v = .tuple #[r, .bool ok] ∧ IsFr Y W r XL) (fun _ _ _ ⟨r, h1, h2⟩ e => ⟨r, h1, IsFr.ext e h2⟩),
         sqW (fun v W => ∃ r, v = .tuple #[r, .bool ok] ∧ IsFr Y W r XL) (fun _ _ _ ⟨r, h1, h2⟩ e => ⟨r, h1, IsFr.ext e h2⟩),
         sqW (fun v W => IsFr Y W v XL) (fun _ _ _ h e => IsFr.ext e h),
         sqV (.bool ok),
         sqW (fun v W => IsFr Y W v XL) (fun _ _ _ h e => IsFr.ext e h),
         sqV (.bool ok)]
        [true, true, true, false, false, false, false, true, false, true] [false, false, false, false, false, false, false, false, false, false] [true, true, true, true, true, true, true, true, true, true] [true, true, true, true, true, true, true, true, true, true]
        (by kernel_rfl) (by kernel_rfl) (by decide +kernel) (by decide +kernel) (by decide +kernel) rfl ⟨rfl, rfl⟩ ⟨?s0, ?s1, ?s2, ?s3, ?s4, ?s5, ?s6, ?s7, ?s8, ?s9, trivial⟩ [some 36, some 37, some 38, some 39, some 40, some 35, some 41, some 42, some 9, some 10] rfl rfl ?send
      case s0 =>
        intro val ρ W hE hz hd hA hx
        have o0 : ρ (.tmp 2) = .pointer (some ⟨w.heap.size, 0, none⟩) := hA.old 2 (by decide)
        have f_k1 := cell_below hE (by simp only; omega) k1
        clear hd
        exact runq_val (W' := W) (by simp [execOp, o0, f_k1, go_sem]) (Below.refl _ _) rfl
      case s1 =>
        intro val ρ W hE hz hd hA hx
        have o0 : ρ (.tmp 1) = .slice ta t.length tc := hA.old 1 (by decide)
        clear hd
        exact runq_val (W' := W) (by simp [execOp, o0, go_sem]) (Below.refl _ _) rfl
      case s2 =>
        intro val ρ W hE hz hd hA hx
        have o0 : ρ (.tmp 2) = .pointer (some ⟨w.heap.size, 0, none⟩) := hA.old 2 (by decide)
        have f_k1 := cell_below hE (by simp only; omega) k1
        clear hd
        exact runq_val (W' := W) (by simp [execOp, o0, f_k1, go_sem]) (Below.refl _ _) rfl
      case s9 =>
        intro val ρ W hE hz hd hA hx
        have d7 : ρ (.tmp 42) = .bool ok := (hA.dep 7 (by decide) 42 rfl).trans (hd 7 (by decide))
        clear hd
        exact runq_val (W' := W) (by simp [execOp, d7, go_sem]) (Below.refl _ _) rfl
      case s3 =>
        intro val ρ W hE hz hd hA hx
        have d2 : ρ (.tmp 38) = .agg #[.slice sa ks.length cap] := (hA.dep 2 (by decide) 38 rfl).trans (hd 2 (by decide))
        clear hd
        refine runq_call 56 _ _ rfl #[.agg #[.slice sa ks.length cap]] (hA.func _) (by simp [d2]) (fun args W => Try.call56 args W) ((allR_any ks _ W (HSr.out.ext hE) (by have := (V).out.n5; omega)).mono ?_)
        rintro e w' ⟨v, rfl, hb, hi⟩
        exact ⟨_, rfl, hb, hi⟩
      case s4 =>
        intro val ρ W hE hz hd hA hx
        have d0 : ρ (.tmp 36) = .agg #[.slice sa ks.length cap] := (hA.dep 0 (by decide) 36 rfl).trans (hd 0 (by decide))
        have ds : ρ (.tmp 37) = .slice ta t.length tc := (hA.dep 1 (by decide) 37 rfl).trans (hd 1 (by decide))
        have qa : IsInts W .i64 (val 3) (upL ks.length) := hd 3 (by decide)
        have da : ρ (.tmp 39) = val 3 := hA.dep 3 (by decide) 39 rfl
        clear hd
        refine runq_call 49 _ _ rfl #[.agg #[.slice sa ks.length cap], .slice ta t.length tc, val 3] (hA.func _) (by simp [d0, ds, da]) (fun args W => Try.call49 args W) ((pulledAF_any ks (t) _ _ _ W (HSr.out.ext hE) (HTI.out.ext hE) qa (V).out (HTS).out).mono ?_)
        rintro e w' ⟨v, rfl, hb, hi, hfr⟩
        exact ⟨_, rfl, hb, v, by rw [HOKX.out], by rw [HXLX.out]; exact hi, fun g hg => by have := hfr g hg; omega⟩
      case s5 =>
        intro val ρ W hE hz hd hA hx
        obtain ⟨r, h1, h2⟩ : ∃ r, val 4 = .tuple #[r, .bool ok] ∧ IsFr Y W r XL := hd 4 (by decide)
        have dd : ρ (.tmp 40) = .tuple #[r, .bool ok] := (hA.dep 4 (by decide) 40 rfl).trans h1
        exact runq_val (W' := W) (v := .tuple #[r, .bool ok]) (by simp [execOp, dd, go_sem]) (Below.refl _ _) ⟨r, rfl, h2⟩
      case s6 =>
        intro val ρ W hE hz hd hA hx
        obtain ⟨r, h1, h2⟩ : ∃ r, val 5 = .tuple #[r, .bool ok] ∧ IsFr Y W r XL := hd 5 (by decide)
        have dd : ρ (.tmp 35) = .tuple #[r, .bool ok] := (hA.dep 5 (by decide) 35 rfl).trans h1
        exact runq_val (W' := W) (v := r) (by simp [execOp, dd, go_sem]) (Below.refl _ _) h2
      case s7 =>
        intro val ρ W hE hz hd hA hx
        obtain ⟨r, h1, h2⟩ : ∃ r, val 5 = .tuple #[r, .bool ok] ∧ IsFr Y W r XL := hd 5 (by decide)
        have dd : ρ (.tmp 35) = .tuple #[r, .bool ok] := (hA.dep 5 (by decide) 35 rfl).trans h1
        exact runq_val (W' := W) (v := .bool ok) (by simp [execOp, dd, go_sem]) (Below.refl _ _) rfl
      case s8 =>
        intro val ρ W hE hz hd hA hx
        have qx : IsFr Y W (val 6) XL := hd 6 (by decide)
        have dx : ρ (.tmp 41) = val 6 := hA.dep 6 (by decide) 41 rfl
        exact runq_val (W' := W) (v := val 6) (by simp [execOp, dx, go_sem]) (Below.refl _ _) qx
      case send =>
        intro val WW hE hzz hv
        obtain ⟨-, -, -, -, -, -, -, -, q8, q9, -⟩ := hv
        have q9' : val 9 = .bool ok := q9
        replace q8 : IsFr Y WW (val 8) XL := q8
        obtain ⟨X8, hX8⟩ : ∃ X8, X8 = val 8 := ⟨_, rfl⟩
        rw [← hX8] at q8
        simp only [putD, q9', ← hX8]
        go_frame
        clear q9 q9' hX8 hzz
        obtain ⟨q8, qfr⟩ := q8
        have HFR := Lib.hid qfr
        clear qfr
        obtain ⟨xa, xc, rfl, -, -, -⟩ := q8.spec
        have HX8 := Lib.hid q8
        clear q8
        have hEW : Ext Y WW := hE
        have hE2 : Ext U WW := HE.out.trans' hEW
        have HEW := Lib.hid hE2
        have HSW := Lib.hid (HSr.out.ext hEW)
        have HO1 := Lib.hid (HO.out.ext hEW)
        have k2 := cell_ext hEW k1
        have hz2 := World.block_lt_of_cell? _ _ k2
        simp only at hz2
        clear hE hEW hE2
        have hok : ok = true := by rw [HOKX.out, HF.out]; rfl
        have hxl : XL = upP allW t := by rw [HXLX.out, HF.out]; rfl
        subst hok
        have hxs := up_st HTS.out HF.out
        rw [← hxl] at hxs
        rw [← hxl] at HCR HCL HCM
        have hxll := isSt_len hxs
        have HXS := Lib.hid hxs
        have HXLL := Lib.hid hxll
        have hx5 : XL.length ≤ 1000 := by omega
        clear hxl hxs hxll HXLX HOKX
        go_wp2_with fail
        go_loopw [11] (fun iv W => ∃ j : Nat, j ≤ c ∧ iv = .int .i64 j ∧ Ext WW W) (fun iv _ => c - (intOf iv).toNat)
        case atStart => exact ⟨0, by omega, rfl, Below.refl _ _⟩
        case round =>
          obtain ⟨j, hj, rfl, hE3⟩ := hrel
          have k3 := cell_ext hE3 k2
          have hz3 := World.block_lt_of_cell? _ _ k3
          simp only at hz3
          have HE3 := Lib.hid hE3
          have HX9 := Lib.hid (HX8.out.ext hE3)
          have HS9 := Lib.hid (HSW.out.ext hE3)
          have hE9 := HEW.out.trans' hE3
          have hjk : j < ks.length := by omega
          have hjx : j < XL.length := by rw [HXLL.out]; exact hjk
          have hvs : isSt ks (visit XL j) = true := visit_st HXS.out (fun i hi => by have := V.out.at_ i hi; omega) j
          obtain ⟨X, hX, hXn⟩ := num_nat V.out hvs
          have hXL : (X : Int) < (LL.length : Int) := by have := HLL.out; omega
          have d1 := HCC.out wr hE9 X hXn
          have hdz := World.block_lt_of_cell? _ _ d1
          simp only at hdz
          have hrw : rkN ks (X : Int) = rowOf (nxS ks) (visit XL j) := by rw [← hX]; exact rkN_num V.out hvs
          have hrc := rkN_bd V.out (X : Int)
          obtain ⟨r, hr⟩ : ∃ r, r = rkN ks (X : Int) := ⟨_, rfl⟩
          rw [← hr] at d1 hrw hrc
          obtain ⟨nb, hnb⟩ : ∃ nb, (r != (k : Int)) = nb := ⟨_, rfl⟩
          have hw1 : IntKind.i64.wrap (((k + 1 : Nat) : Int) - 1) = (k : Int) := by rw [show ((k + 1 : Nat) : Int) - 1 = (k : Int) by omega]; exact IntWalk.i64_in _ (by omega)
          have hw3 : IntKind.i64.wrap (k : Int) = (k : Int) := IntWalk.i64_in _ (by omega)
          have hw2 : IntKind.i64.wrap ((k : Int) + 1 - 1) = (k : Int) := by rw [show (k : Int) + 1 - 1 = (k : Int) by omega]; exact IntWalk.i64_in _ (by omega)
          have hdec : nb = false ↔ j = c := by
            rw [← hnb, bne_eq_false_iff_eq, hrw, rowOf_iff]
            constructor
            · intro h
              rcases Nat.lt_or_ge j c with h2 | h2
              · exact absurd h (HCM.out j h2)
              · omega
            · rintro rfl
              exact HCR.out
          have HDEC := Lib.hid hdec
          have HVS := Lib.hid hvs
          have HXE := Lib.hid hX
          have HE9 := Lib.hid hE9
          clear hE3 hvs hX hr hrw hdec hE9
          go_upto_region 12 with (fail)
          obtain ⟨Z, hZ⟩ : ∃ Z, Z = wr := ⟨_, rfl⟩
          subst hZ
          refine wp_region_rove (Z.heap.size) (Nat.le_refl _)
            [sqV (.slice (some ⟨b, off, none⟩) LL.length rc),
             sqV (.agg #[.slice sa ks.length cap]),
             sqV (.slice xa XL.length xc),
             sqV (.int .i64 j),
             sqW (fun v W => IsInts W .i64 v (visit XL j)) (fun _ _ _ h e => IsInts.ext e h),
             sqV (.int .i64 X),
             sqV (.pointer (some ⟨b, off + X, none⟩)),
             sqV (.int .i64 r),
             sqV (.int .i64 (k + 1)),
             sqV (.int .i64 k),
             sqV (.bool nb)]
            [true, true, true, true, false, true, true, true, true, true, true] [false, false, false, false, false, false, false, false, false, false, false] [true, true, true, true, true, true, true, true, true, true, true] [true, true, true, true, true, true, true, true, true, true, true]
            (by kernel_rfl) (by kernel_rfl) (by decide +kernel) (by decide +kernel) (by decide +kernel) rfl ⟨rfl, rfl⟩ ⟨?s0, ?s1, ?s2, ?s3, ?s4, ?s5, ?s6, ?s7, ?s8, ?s9, ?s10, trivial⟩ [some 43, some 44, some 45, some 46, some 47, some 48, some 49, some 50, some 51, some 52, some 53] rfl rfl ?send
          case s0 =>
            intro val ρ W hE hz hd hA hx
            have o0 : ρ (.tmp 6) = .slice (some ⟨b, off, none⟩) LL.length rc := hA.old 6 (by decide)
            clear hd
            exact runq_val (W' := W) (by simp [execOp, o0, go_sem]) (Below.refl _ _) rfl
          case s1 =>
            intro val ρ W hE hz hd hA hx
            have o0 : ρ (.tmp 2) = .pointer (some ⟨w.heap.size, 0, none⟩) := hA.old 2 (by decide)
            have f_k3 := cell_below hE (by simp only; omega) k3
            clear hd
            exact runq_val (W' := W) (by simp [execOp, o0, f_k3, go_sem]) (Below.refl _ _) rfl
          case s2 =>
            intro val ρ W hE hz hd hA hx
            have o0 : ρ (.tmp 9) = .slice xa XL.length xc := hA.old 9 (by decide)
            clear hd
            exact runq_val (W' := W) (by simp [execOp, o0, go_sem]) (Below.refl _ _) rfl
          case s3 =>
            intro val ρ W hE hz hd hA hx
            have o0 : ρ (.tmp 11) = .int .i64 j := hA.old 11 (by decide)
            clear hd
            exact runq_val (W' := W) (by simp [execOp, o0, go_sem]) (Below.refl _ _) rfl
          case s6 =>
            intro val ρ W hE hz hd hA hx
            have d0 : ρ (.tmp 43) = .slice (some ⟨b, off, none⟩) LL.length rc := (hA.dep 0 (by decide) 43 rfl).trans (hd 0 (by decide))
            have d5 : ρ (.tmp 48) = .int .i64 X := (hA.dep 5 (by decide) 48 rfl).trans (hd 5 (by decide))
            clear hd
            exact runq_val (W' := W) (by simp [execOp, d0, d5, hXL, go_sem]) (Below.refl _ _) rfl
          case s7 =>
            intro val ρ W hE hz hd hA hx
            have d6 : ρ (.tmp 49) = .pointer (some ⟨b, off + X, none⟩) := (hA.dep 6 (by decide) 49 rfl).trans (hd 6 (by decide))
            have f_d1 := cell_below hE (by simp only; omega) d1
            clear hd
            exact runq_val (W' := W) (by simp [execOp, d6, f_d1, go_sem]) (Below.refl _ _) rfl
          case s8 =>
            intro val ρ W hE hz hd hA hx
            have o0 : ρ (.tmp 8) = .int .i64 (k + 1) := hA.old 8 (by decide)
            clear hd
            exact runq_val (W' := W) (by simp [execOp, o0, go_sem]) (Below.refl _ _) rfl
          case s9 =>
            intro val ρ W hE hz hd hA hx
            have d8 : ρ (.tmp 51) = .int .i64 (k + 1) := (hA.dep 8 (by decide) 51 rfl).trans (hd 8 (by decide))
            clear hd
            exact runq_val (W' := W) (by simp [execOp, hA.const, d8, hw3, go_sem]) (Below.refl _ _) rfl
          case s10 =>
            intro val ρ W hE hz hd hA hx
            have d7 : ρ (.tmp 50) = .int .i64 r := (hA.dep 7 (by decide) 50 rfl).trans (hd 7 (by decide))
            have d9 : ρ (.tmp 52) = .int .i64 k := (hA.dep 9 (by decide) 52 rfl).trans (hd 9 (by decide))
            clear hd
            exact runq_val (W' := W) (by simp [execOp, d7, d9, hnb, go_sem]) (Below.refl _ _) rfl
          case s4 =>
            intro val ρ W hE hz hd hA hx
            have d2 : ρ (.tmp 45) = .slice xa XL.length xc := (hA.dep 2 (by decide) 45 rfl).trans (hd 2 (by decide))
            have d3 : ρ (.tmp 46) = .int .i64 j := (hA.dep 3 (by decide) 46 rfl).trans (hd 3 (by decide))
            clear hd
            refine runq_call 50 _ _ rfl #[.slice xa XL.length xc, .int .i64 j] (hA.func _) (by simp [d2, d3]) (fun args W => Try.call50 args W) ((visitedR_any XL j _ W (HX9.out.ext hE) hjx hx5).mono ?_)
            rintro e w' ⟨v, rfl, hb, hi⟩
            exact ⟨_, rfl, hb, hi⟩
          case s5 =>
            intro val ρ W hE hz hd hA hx
            have d1 : ρ (.tmp 44) = .agg #[.slice sa ks.length cap] := (hA.dep 1 (by decide) 44 rfl).trans (hd 1 (by decide))
            have q4 : IsInts W .i64 (val 4) (visit XL j) := hd 4 (by decide)
            have d4 : ρ (.tmp 47) = val 4 := hA.dep 4 (by decide) 47 rfl
            clear hd
            refine runq_call 79 _ _ rfl #[.agg #[.slice sa ks.length cap], val 4] (hA.func _) (by simp [d1, d4]) (fun args W => Try.call79 args W) ((indexR_any ks (visit XL j) _ _ W (HS9.out.ext hE) q4 V.out HVS.out).mono ?_)
            rintro e w' ⟨rfl, hb⟩
            exact ⟨_, rfl, hb, by rw [HXE.out]; rfl⟩
          case send =>
            intro val WW2 hE hzz hv
            obtain ⟨-, -, -, -, -, -, -, -, -, -, q10, -⟩ := hv
            have q10' : val 10 = .bool nb := q10
            have hE4 : Ext Z WW2 := hE
            have HE4 := Lib.hid (HE3.out.trans' hE4)
            have HX10 := Lib.hid (HX9.out.ext hE4)
            simp only [putD, q10']
            go_frame
            clear q10 q10' hE hzz hnb
            cases nb
            · have hjc : j = c := HDEC.out.1 rfl
              have HJC := Lib.hid hjc
              have hE5 := HE4.out
              have HO2 := Lib.hid (HO1.out.ext hE5)
              have hE6 := HEW.out.trans' hE5
              have HE6 := Lib.hid hE6
              have hsz := hE6.size
              clear hjc hE4 hE5 hE6
              go_wp2_with (at_builtin; refine wpAt rfl (.tmp 56) (.tmp 58) elInt rfl U.heap.size rfl (HO2.out.ext (by exact (by repeat (first | exact Below.refl _ _ | refine Ext.al ?_ _ | refine Ext.dr ?_ | refine Ext.drN ?_ _ | refine Ext.gr ?_ _ | refine Ext.set ?_ (by simp) _ | (refine Ext.trans' ?_ (by assumption)))))) WW2.heap.size 0 1 [iRow (j : Int)] rfl (by simp [iRow]) (newRow _ (iRow (j : Int)) _) (by simp [iRow, Value.oneCell']) (by rw [List.length_map]; simp; omega) (by simp; omega) ?_)
              intro v' w' hown' hk5 hat5
              obtain ⟨va, vn, vc, rfl⟩ := hown'.isSlice
              have hkk : Kept (fun k => some k ≠ (Value.slice oa on oc).ownBlock) WW2 w' := ((Kept.refl _ WW2).alloc _).trans hk5
              have hE7 : Ext U w' := HE6.out.trans (Kept.below (Kept.low HO2.out hkk (fun j h => h)) (by omega))
              have HO3 := Lib.hid hown'
              have HE7 := Lib.hid hE7
              have HX11 := Lib.hid (show IsInts w' .i64 (.slice xa XL.length xc) XL from IsRows.kept hkk (fun g hg e => by
                have h1 := HFR.out g hg
                have h2 := (HO.out.notOwn g e.symm).2
                omega) HX10.out)
              clear hown' hk5 hat5 hkk hE7
              go_wp2_with fail
              refine (visitedR_any XL j _ _ (HX11.out.ext (by exact (by repeat (first | exact Below.refl _ _ | refine Ext.al ?_ _ | refine Ext.dr ?_ | refine Ext.drN ?_ _ | refine Ext.gr ?_ _ | refine Ext.set ?_ (by simp) _ | (refine Ext.trans' ?_ (by assumption)))))) hjx hx5).mono ?_
              rintro e W5 ⟨nv, rfl, hE8, hni⟩
              have HNI := Lib.hid hni
              have HO4 := Lib.hid (HO3.out.ext hE8)
              have HE8 := Lib.hid (HE7.out.trans' hE8)
              obtain ⟨na, nc, rfl, -, -, -⟩ := hni.spec
              clear hni hE8
              go_wp2_with fail
              go_roundw
              case rel =>
                refine ⟨k, visit XL j, O ++ [(j : Int)], by omega, by go_num, HVS.out, ?_, ?_, by simp; omega, HNI.out, ?_, HE8.out⟩
                · rw [HJC.out]; exact HCR.out
                · rw [HLG2.out, HCL.out, HJC.out, List.append_assoc]; rfl
                · rw [List.map_append]; exact HO4.out
              case measure => simp [intOf]
            · have hjc : j < c := by
                have := HDEC.out
                rcases Nat.lt_or_ge j c with h2 | h2
                · exact h2
                · exact absurd (this.2 (by omega)) (by simp)
              clear hE4
              go_wp2_with fail
              go_roundw
              case rel => exact ⟨j + 1, by omega, by go_num, HE4.out⟩
              case measure => simp [intOf]; omega
    · obtain rfl : k = 0 := by omega
      have hkd : decide ((0 : Int) < ((0 : Nat) : Int)) = false := by decide
      have hfin : lastG ks r0 s = O := by rw [HLG2.out]; simp [lastG]
      have HFIN := Lib.hid hfin
      clear hfin
      go_wp2_with fail
      refine bodyPost_ret (v := .tuple #[.slice oa on oc, .int .i64 0]) (by simp [results, Try.results43, go_sem]) rfl ?_
      exact ⟨_, by rw [HE0.out], HW.out.trans' HE.out, by rw [HLG.out, HFIN.out]; exact HO.out.oneInts⟩
end Go.Proofs.Ytndgaklcnhoddaa
