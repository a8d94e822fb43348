/-
  The walks of the reference's Leads and Next.
-/
import Derived.Test.YtndgaklcnhoddaaRefN
namespace Go.Proofs.Ytndgaklcnhoddaa
open Go.RowKit Go.Shelf
/-- the windows below one whose visit leads to a safe state, when pulls have been made -/
noncomputable def leadsK (ks x : List Int) (k : Nat) : List Int := ((List.range k).filter fun w => decide (rowOf (nxS ks) (visit x w) < 0)).map fun (w : Nat) => (w : Int)
theorem leadsK_succ (ks x : List Int) (k : Nat) : leadsK ks x (k + 1) = leadsK ks x k ++ (if decide (rowOf (nxS ks) (visit x k) < 0) = true then [(k : Int)] else []) := by
  unfold leadsK
  rw [List.range_succ, List.filter_append, List.map_append]
  congr 1
  cases h : decide (rowOf (nxS ks) (visit x k) < 0)
  · rw [if_neg (by simp)]
    have h' : ¬ rowOf (nxS ks) (visit x k) < 0 := of_decide_eq_false h
    simp [h']
  · rw [if_pos rfl]
    have h' : rowOf (nxS ks) (visit x k) < 0 := of_decide_eq_true h
    simp [h']
theorem leadsK_len (ks x : List Int) (k : Nat) : (leadsK ks x k).length ≤ k := by
  unfold leadsK
  rw [List.length_map]
  have := List.length_filter_le (fun w => decide (rowOf (nxS ks) (visit x w) < 0)) (List.range k)
  simpa using this
theorem leadsL_eq {ks : List Int} {p : Nat → Bool} {s : List Int} : leadsL ks p s = if fullP p ks s then [] else leadsK ks (upP p s) ks.length := rfl
set_option maxRecDepth 100000 in
set_option maxHeartbeats 2000000 in
theorem leadsR_any (ks x : List Int) (kv rv xv : Value) (w : World) (hv : IsInts w .i64 kv ks) (hr : IsInts w .i64 rv (rowsL ks (rkN ks))) (hx : IsInts w .i64 xv x) (v : TVal ks) (hst : isSt ks x = true) :
    Calls Try.prog 87 #[.agg #[kv], rv, xv] w fun e W => ∃ r, e = .returned r ∧ Ext w W ∧ IsInts W .i64 r (leadsK ks x ks.length) := by
  obtain ⟨sa, cap, rfl, h1, h2, -⟩ := hv.spec
  obtain ⟨xa, xc, rfl, h3, h4, -⟩ := hx.spec
  obtain ⟨L, hLe⟩ : ∃ L, L = rowsL ks (rkN ks) := ⟨_, rfl⟩
  rw [← hLe] at hr
  obtain ⟨ra, rcap, rfl, h5, h6, -⟩ := hr.spec
  have HV := Lib.hid hv
  have HX0 := Lib.hid hx
  have HR0 := Lib.hid hr
  have V := Lib.hid v
  have HST := Lib.hid hst
  have HLE := Lib.hid hLe
  have n1 := v.n1
  have n5 := v.n5
  have hxl := isSt_len hst
  have HXL := Lib.hid hxl
  have hx5 : x.length ≤ 1000 := by omega
  clear hv hr hx v hst hLe hxl
  go_enter Try.func87, Try.ntmps87
  go_upto_region 1 with (fail)
  obtain ⟨W0, hW0⟩ : ∃ W0, W0 = w.alloc (.cells #[.slice sa ks.length cap] 24) := ⟨_, rfl⟩
  have hE : Ext w W0 := by rw [hW0]; exact (by repeat (first | exact Below.refl _ _ | refine Ext.al ?_ _ | refine Ext.dr ?_ | refine Ext.drN ?_ _ | refine Ext.gr ?_ _ | refine Ext.set ?_ (by simp) _ | (refine Ext.trans' ?_ (by assumption))))
  have k0 : W0.cell? ⟨w.heap.size, 0, none⟩ = some (.slice sa ks.length cap) := by rw [hW0]; simp [go_sem]
  have hz : w.heap.size < W0.heap.size := World.block_lt_of_cell? _ _ k0
  have HS := Lib.hid (HV.out.ext hE)
  have HW := Lib.hid hE
  rw [← hW0]
  clear hW0 HV
  have HX := Lib.hid (HX0.out.ext hE)
  have HR := Lib.hid (HR0.out.ext hE)
  clear hE HR0 HX0
  go_wp2_with fail
  go_loopw [7, 8] (fun a i W => ∃ k : Nat, k ≤ x.length ∧ i = .int .i64 k ∧ Ext W0 W ∧ Owns W W0.heap.size 3 1 a ((leadsK ks x k).map iRow)) (fun _ i _ => x.length - (intOf i).toNat)
  case atStart => exact ⟨0, by omega, rfl, Below.refl _ _, Owns.nil _ _ _ _⟩
  case round =>
    obtain ⟨k, hk, rfl, hE, hown⟩ := hrel
    obtain ⟨oa, on, oc, rfl⟩ := hown.isSlice
    have k1 := cell_ext hE k0
    have hz1 := World.block_lt_of_cell? _ _ k1
    have hsz := hE.size
    simp only at hz1
    have HO := Lib.hid hown
    have HE := Lib.hid hE
    have HSr := Lib.hid (HS.out.ext hE)
    have HXr := Lib.hid (HX.out.ext hE)
    have HRr := Lib.hid (HR.out.ext hE)
    clear hE hown
    by_cases hlt : k < x.length
    · have hki : (k : Int) < (x.length : Int) := by omega
      have hvs : isSt ks (visit x k) = true := visit_st HST.out (fun i hi => by have := V.out.at_ i hi; omega) k
      obtain ⟨sf, hsf⟩ : ∃ sf, sf = decide (rowOf (nxS ks) (visit x k) < 0) := ⟨_, rfl⟩
      have hsu := leadsK_succ ks x k
      have hln := leadsK_len ks x k
      rw [← hsf] at hsu
      have hsr : sf = decide (rkN ks (numS ks (visit x k)) < 0) := by rw [rkN_num V.out hvs]; exact hsf
      have HSF := Lib.hid hsr
      have HSU := Lib.hid hsu
      have HLN := Lib.hid hln
      have HVS := Lib.hid hvs
      clear hvs hsf hsu hsr hln
      go_upto_region 5 with (fail)
      obtain ⟨Y, hY⟩ : ∃ Y, Y = wr := ⟨_, rfl⟩
      subst hY
      refine wp_region_rove (Y.heap.size) (Nat.le_refl _)
        [sqV (.agg #[.slice sa ks.length cap]),
         sqV (.slice ra L.length rcap),
         sqV (.slice xa x.length xc),
         sqV (.int .i64 k),
         sqW (fun v W => IsInts W .i64 v (visit x k)) (fun _ _ _ h e => IsInts.ext e h),
         sqV (.bool sf)]
        [true, true, true, true, false, true] [false, false, false, false, false, false] [true, true, true, true, true, true] [true, true, true, true, true, true]
        (by kernel_rfl) (by kernel_rfl) (by decide +kernel) (by decide +kernel) (by decide +kernel) rfl ⟨rfl, rfl⟩ ⟨?s0, ?s1, ?s2, ?s3, ?s4, ?s5, trivial⟩ [some 15, some 16, some 17, some 18, some 19, some 20] rfl rfl ?send
      case s0 =>
        intro val ρ W hE hz hd hA hx
        have o0 : ρ (.tmp 3) = .pointer (some ⟨w.heap.size, 0, none⟩) := hA.old 3 (by decide)
        have f_k1 := cell_below hE (by simp only; omega) k1
        clear hd
        exact runq_val (W' := W) (by simp [execOp, o0, f_k1, go_sem]) (Below.refl _ _) rfl
      case s1 =>
        intro val ρ W hE hz hd hA hx
        have o0 : ρ (.tmp 1) = .slice ra L.length rcap := hA.old 1 (by decide)
        clear hd
        exact runq_val (W' := W) (by simp [execOp, o0, go_sem]) (Below.refl _ _) rfl
      case s2 =>
        intro val ρ W hE hz hd hA hx
        have o0 : ρ (.tmp 2) = .slice xa x.length xc := hA.old 2 (by decide)
        clear hd
        exact runq_val (W' := W) (by simp [execOp, o0, go_sem]) (Below.refl _ _) rfl
      case s3 =>
        intro val ρ W hE hz hd hA hx
        have o0 : ρ (.tmp 8) = .int .i64 k := hA.old 8 (by decide)
        clear hd
        exact runq_val (W' := W) (by simp [execOp, o0, go_sem]) (Below.refl _ _) rfl
      case s4 =>
        intro val ρ W hE hz hd hA hx
        have d2 : ρ (.tmp 17) = .slice xa x.length xc := (hA.dep 2 (by decide) 17 rfl).trans (hd 2 (by decide))
        have d3 : ρ (.tmp 18) = .int .i64 k := (hA.dep 3 (by decide) 18 rfl).trans (hd 3 (by decide))
        clear hd
        refine runq_call 50 _ _ rfl #[.slice xa x.length xc, .int .i64 k] (hA.func _) (by simp [d2, d3]) (fun args W => Try.call50 args W) ((visitedR_any x k _ W (HXr.out.ext hE) hlt hx5).mono ?_)
        rintro e w' ⟨v, rfl, hb, hi⟩
        exact ⟨_, rfl, hb, hi⟩
      case s5 =>
        intro val ρ W hE hz hd hA hx
        have d0 : ρ (.tmp 15) = .agg #[.slice sa ks.length cap] := (hA.dep 0 (by decide) 15 rfl).trans (hd 0 (by decide))
        have d1 : ρ (.tmp 16) = .slice ra L.length rcap := (hA.dep 1 (by decide) 16 rfl).trans (hd 1 (by decide))
        have q4 : IsInts W .i64 (val 4) (visit x k) := hd 4 (by decide)
        have d4 : ρ (.tmp 19) = val 4 := hA.dep 4 (by decide) 19 rfl
        clear hd
        have hri : IsInts W .i64 (.slice ra L.length rcap) (rowsL ks (rkN ks)) := by rw [← HLE.out]; exact HRr.out.ext hE
        refine runq_call 76 _ _ rfl #[.agg #[.slice sa ks.length cap], .slice ra L.length rcap, val 4] (hA.func _) (by simp [d0, d1, d4]) (fun args W => Try.call76 args W) ((isSafeR_any ks (visit x k) (rkN ks) _ _ _ W (HSr.out.ext hE) hri q4 V.out HVS.out).mono ?_)
        rintro e w' ⟨rfl, hb⟩
        exact ⟨_, rfl, hb, by rw [HSF.out]; rfl⟩
      case send =>
        intro val WW hE hzz hv
        obtain ⟨-, -, -, -, -, q5, -⟩ := hv
        have q5' : val 5 = .bool sf := q5
        have hE2 : Ext W0 WW := HE.out.trans' hE
        have HO1 := Lib.hid (HO.out.ext hE)
        have HE2 := Lib.hid hE2
        have hsz2 := hE2.size
        simp only [putD, q5']
        go_frame
        clear q5 q5' hE hzz hE2
        cases sf
        · have hsu := HSU.out
          rw [if_neg (by simp), List.append_nil] at hsu
          have HSU2 := Lib.hid hsu
          clear hsu
          go_wp2_with fail
          go_roundw
          case rel => exact ⟨k + 1, by omega, by go_num, HE2.out, by rw [HSU2.out]; exact HO1.out⟩
          case measure => simp [intOf]; omega
        · have hsu := HSU.out
          rw [if_pos rfl] at hsu
          have HSU2 := Lib.hid hsu
          clear hsu
          go_wp2_with (at_builtin; refine wpOwn rfl (.tmp 21) (.tmp 23) elInt rfl W0.heap.size rfl (HO1.out.ext (by exact (by repeat (first | exact Below.refl _ _ | refine Ext.al ?_ _ | refine Ext.dr ?_ | refine Ext.drN ?_ _ | refine Ext.gr ?_ _ | refine Ext.set ?_ (by simp) _ | (refine Ext.trans' ?_ (by assumption)))))) WW.heap.size 0 1 [iRow (k : Int)] rfl (by simp [iRow]) (newRow _ (iRow (k : Int)) _) (by simp [iRow, Value.oneCell']) (by rw [List.length_map]; have := HLN.out; simp; omega) (by simp; omega) ?_)
          intro v' w' hown' hbel
          obtain ⟨va, vn, vc, rfl⟩ := hown'.isSlice
          have HO2 := Lib.hid hown'
          have HB2 := Lib.hid hbel
          clear hown' hbel
          go_wp2_with fail
          go_roundw
          case rel =>
            refine ⟨k + 1, by omega, by go_num, (show Ext W0 _ from HE2.out.trans' (by repeat (first | exact Below.refl _ _ | refine Ext.al ?_ _ | refine Ext.dr ?_ | refine Ext.drN ?_ _ | refine Ext.gr ?_ _ | refine Ext.set ?_ (by simp) _ | (refine Ext.trans' ?_ (by assumption))))).trans HB2.out, ?_⟩
            rw [HSU2.out, List.map_append]
            exact HO2.out
          case measure => simp [intOf]; omega
    · have hki : ¬ ((k : Int) < (x.length : Int)) := by omega
      have HK := Lib.hid (show k = ks.length by have := HXL.out; omega)
      go_wp2_with fail
      go_ret
      exact ⟨_, rfl, HW.out.trans' HE.out, by rw [← HK.out]; exact HO.out.oneInts⟩
set_option maxRecDepth 100000 in
set_option maxHeartbeats 4000000 in
theorem nextR_any (ks s : List Int) (kv lv : Value) (w : World) (hv : IsInts w .i64 kv ks) (hl : IsInts w .i64 lv s) :
    Calls Try.prog 39 #[.agg #[kv], lv] w (RetL (nextL ks s) (nextErr ks s) w) := by
  obtain ⟨sa, cap, rfl, h1, h2, -⟩ := hv.spec
  obtain ⟨la, lcap, rfl, h3, h4, -⟩ := hl.spec
  have HV := Lib.hid hv
  have HL0 := Lib.hid hl
  clear hv hl
  go_enter Try.func39, Try.ntmps39
  go_upto_region 1 with (fail)
  obtain ⟨W0, hW0⟩ : ∃ W0, W0 = w.alloc (.cells #[.slice sa ks.length cap] 24) := ⟨_, rfl⟩
  have hE : Ext w W0 := by rw [hW0]; exact (by repeat (first | exact Below.refl _ _ | refine Ext.al ?_ _ | refine Ext.dr ?_ | refine Ext.drN ?_ _ | refine Ext.gr ?_ _ | refine Ext.set ?_ (by simp) _ | (refine Ext.trans' ?_ (by assumption))))
  have k0 : W0.cell? ⟨w.heap.size, 0, none⟩ = some (.slice sa ks.length cap) := by rw [hW0]; simp [go_sem]
  have hz : w.heap.size < W0.heap.size := World.block_lt_of_cell? _ _ k0
  have HS := Lib.hid (HV.out.ext hE)
  have HW := Lib.hid hE
  rw [← hW0]
  clear hW0 HV
  have HL := Lib.hid (HL0.out.ext hE)
  clear hE HL0
  obtain ⟨er, her⟩ : ∃ er, er = stErr ks s := ⟨_, rfl⟩
  have c1 := fun W h1 h2 => statedR_any ks s (.slice sa ks.length cap) (.slice la s.length lcap) W h1 h2
  simp only [← her] at c1
  have C1 := Lib.hid c1
  have HER := Lib.hid her
  clear c1 her



  by_cases hc : er = 0
  rotate_left
  · have e1 : (er == 0) = false := by simpa using hc
    have e2 : (er != 0) = true := by simpa using hc
    have HC := Lib.hid hc
    clear hc

    go_wp2_with fail
    refine callW (W0 := W0) (g := ⟨W0, Below.refl _ _⟩) (by exact (by repeat (first | exact Below.refl _ _ | refine Ext.al ?_ _ | refine Ext.dr ?_ | refine Ext.drN ?_ _ | refine Ext.gr ?_ _ | refine Ext.set ?_ (by simp) _ | (refine Ext.trans' ?_ (by assumption))))) (C1.out _ (HS.out.ext (by exact (by repeat (first | exact Below.refl _ _ | refine Ext.al ?_ _ | refine Ext.dr ?_ | refine Ext.drN ?_ _ | refine Ext.gr ?_ _ | refine Ext.set ?_ (by simp) _ | (refine Ext.trans' ?_ (by assumption)))))) (HL.out.ext (by exact (by repeat (first | exact Below.refl _ _ | refine Ext.al ?_ _ | refine Ext.dr ?_ | refine Ext.drN ?_ _ | refine Ext.gr ?_ _ | refine Ext.set ?_ (by simp) _ | (refine Ext.trans' ?_ (by assumption))))))) fun g1 hgr => ?_
    clear hgr
    go_wp2_with fail
    refine callW (W0 := W0) (g := g1) (by exact (by repeat (first | exact Below.refl _ _ | refine Ext.al ?_ _ | refine Ext.dr ?_ | refine Ext.drN ?_ _ | refine Ext.gr ?_ _ | refine Ext.set ?_ (by simp) _ | (refine Ext.trans' ?_ (by assumption))))) (C1.out _ (HS.out.ext (by exact (by repeat (first | exact Below.refl _ _ | refine Ext.al ?_ _ | refine Ext.dr ?_ | refine Ext.drN ?_ _ | refine Ext.gr ?_ _ | refine Ext.set ?_ (by simp) _ | (refine Ext.trans' ?_ (by assumption)))))) (HL.out.ext (by exact (by repeat (first | exact Below.refl _ _ | refine Ext.al ?_ _ | refine Ext.dr ?_ | refine Ext.drN ?_ _ | refine Ext.gr ?_ _ | refine Ext.set ?_ (by simp) _ | (refine Ext.trans' ?_ (by assumption))))))) fun g2 hgr => ?_
    clear hgr
    go_wp2_with fail
    refine bodyPost_ret (v := .tuple #[.slice none 0 0, .int .i64 er]) (by simp [results, Try.results39, go_sem]) rfl ?_
    have hne : stErr ks s ≠ 0 := by rw [← HER.out]; exact HC.out
    exact ⟨_, by unfold nextErr; rw [if_pos hne, HER.out], HW.out.trans' (grow_below W0 _), by unfold nextL; rw [if_pos hne]; exact IsInts.nil _ _⟩

  obtain ⟨v, hsi⟩ := stErr_ok (HER.out.symm.trans hc)
  have HC := Lib.hid (HER.out.symm.trans hc)
  have V := Lib.hid v
  have HIS := Lib.hid hsi
  subst hc
  clear v hsi
  have n1 := V.out.n1
  have n5 := V.out.n5
  go_wp2_with fail
  refine callW (W0 := W0) (g := ⟨W0, Below.refl _ _⟩) (by exact (by repeat (first | exact Below.refl _ _ | refine Ext.al ?_ _ | refine Ext.dr ?_ | refine Ext.drN ?_ _ | refine Ext.gr ?_ _ | refine Ext.set ?_ (by simp) _ | (refine Ext.trans' ?_ (by assumption))))) (C1.out _ (HS.out.ext (by exact (by repeat (first | exact Below.refl _ _ | refine Ext.al ?_ _ | refine Ext.dr ?_ | refine Ext.drN ?_ _ | refine Ext.gr ?_ _ | refine Ext.set ?_ (by simp) _ | (refine Ext.trans' ?_ (by assumption)))))) (HL.out.ext (by exact (by repeat (first | exact Below.refl _ _ | refine Ext.al ?_ _ | refine Ext.dr ?_ | refine Ext.drN ?_ _ | refine Ext.gr ?_ _ | refine Ext.set ?_ (by simp) _ | (refine Ext.trans' ?_ (by assumption))))))) fun g3 hgr => ?_
  clear hgr
  go_wp2_with fail
  refine callWR (W0 := W0) (g := g3) (by exact (by repeat (first | exact Below.refl _ _ | refine Ext.al ?_ _ | refine Ext.dr ?_ | refine Ext.drN ?_ _ | refine Ext.gr ?_ _ | refine Ext.set ?_ (by simp) _ | (refine Ext.trans' ?_ (by assumption))))) (rowsR_any ks _ _ (HS.out.ext (by exact (by repeat (first | exact Below.refl _ _ | refine Ext.al ?_ _ | refine Ext.dr ?_ | refine Ext.drN ?_ _ | refine Ext.gr ?_ _ | refine Ext.set ?_ (by simp) _ | (refine Ext.trans' ?_ (by assumption)))))) V.out) (fun _ _ ⟨_, _, r, _⟩ => r) fun _ g4 hgr hr => ?_
  obtain ⟨r, rfl, -, hR⟩ := hr
  clear hgr
  obtain ⟨ra, rc, rfl, -⟩ := hR.spec
  have HR := Lib.hid hR
  clear hR

  go_upto_region 4 with (fail)
  obtain ⟨U, hU⟩ : ∃ zz9, zz9 = (grow W0 g4) := ⟨_, rfl⟩
  have eU : Ext W0 U := by rw [hU]; exact (by repeat (first | exact Below.refl _ _ | refine Ext.al ?_ _ | refine Ext.dr ?_ | refine Ext.drN ?_ _ | refine Ext.gr ?_ _ | refine Ext.set ?_ (by simp) _ | (refine Ext.trans' ?_ (by assumption))))
  have eUc : Ext (grow W0 g4) U := by rw [hU]; exact (by repeat (first | exact Below.refl _ _ | refine Ext.al ?_ _ | refine Ext.dr ?_ | refine Ext.drN ?_ _ | refine Ext.gr ?_ _ | refine Ext.set ?_ (by simp) _ | (refine Ext.trans' ?_ (by assumption))))
  replace k0 := cell_ext eU k0
  replace HS := Lib.hid (HS.out.ext eU)
  replace HL := Lib.hid (HL.out.ext eU)
  replace HR := Lib.hid (HR.out.ext eUc)
  replace HW := Lib.hid (HW.out.trans' eU)
  rw [← hU]
  replace hz := World.block_lt_of_cell? _ _ k0
  clear hU eU eUc
  simp only at hz
  obtain ⟨ok, hok⟩ : ∃ ok, ok = !fullP allW ks (s) := ⟨_, rfl⟩
  obtain ⟨XL, hXL⟩ : ∃ XL, XL = (if fullP allW ks (s) then [] else upP allW (s)) := ⟨_, rfl⟩
  have HOKX := Lib.hid hok
  have HXLX := Lib.hid hXL
  clear hok hXL
  refine wp_region_rove (U.heap.size) (Nat.le_refl _)
    [sqV (.agg #[.slice sa ks.length cap]),
     sqV (.slice la s.length lcap),
     sqV (.agg #[.slice sa ks.length cap]),
     sqW (fun v W => IsInts W .i64 v (upL ks.length)) (fun _ _ _ h e => IsInts.ext e h),
     sqW (fun v W => ∃ r, v = .tuple #[r, .bool ok] ∧ IsInts W .i64 r XL) (fun _ _ _ ⟨r, h1, h2⟩ e => ⟨r, h1, IsInts.ext e h2⟩),
     sqW (fun v W => ∃ r, v = .tuple #[r, .bool ok] ∧ IsInts W .i64 r XL) (fun _ _ _ ⟨r, h1, h2⟩ e => ⟨r, h1, IsInts.ext e h2⟩),
     sqW (fun v W => IsInts W .i64 v XL) (fun _ _ _ h e => IsInts.ext e h),
     sqV (.bool ok),
     sqW (fun v W => IsInts W .i64 v XL) (fun _ _ _ h e => IsInts.ext e h),
     sqV (.bool ok)]
    [true, true, true, false, false, false, false, true, false, true] [false, false, false, false, false, false, false, false, false, false] [true, true, true, true, true, true, true, true, true, true] [true, true, true, true, true, true, true, true, true, true]
    (by kernel_rfl) (by kernel_rfl) (by decide +kernel) (by decide +kernel) (by decide +kernel) rfl ⟨rfl, rfl⟩ ⟨?s0, ?s1, ?s2, ?s3, ?s4, ?s5, ?s6, ?s7, ?s8, ?s9, trivial⟩ [some 19, some 20, some 21, some 22, some 23, some 18, some 24, some 25, some 7, some 8] rfl rfl ?send
  case s0 =>
    intro val ρ W hE hz hd hA hx
    have o0 : ρ (.tmp 2) = .pointer (some ⟨w.heap.size, 0, none⟩) := hA.old 2 (by decide)
    have f_k0 := cell_below hE (by simp only; omega) k0
    clear hd
    exact runq_val (W' := W) (by simp [execOp, o0, f_k0, go_sem]) (Below.refl _ _) rfl
  case s1 =>
    intro val ρ W hE hz hd hA hx
    have o0 : ρ (.tmp 1) = .slice la s.length lcap := hA.old 1 (by decide)
    clear hd
    exact runq_val (W' := W) (by simp [execOp, o0, go_sem]) (Below.refl _ _) rfl
  case s2 =>
    intro val ρ W hE hz hd hA hx
    have o0 : ρ (.tmp 2) = .pointer (some ⟨w.heap.size, 0, none⟩) := hA.old 2 (by decide)
    have f_k0 := cell_below hE (by simp only; omega) k0
    clear hd
    exact runq_val (W' := W) (by simp [execOp, o0, f_k0, go_sem]) (Below.refl _ _) rfl
  case s9 =>
    intro val ρ W hE hz hd hA hx
    have d7 : ρ (.tmp 25) = .bool ok := (hA.dep 7 (by decide) 25 rfl).trans (hd 7 (by decide))
    clear hd
    exact runq_val (W' := W) (by simp [execOp, d7, go_sem]) (Below.refl _ _) rfl
  case s3 =>
    intro val ρ W hE hz hd hA hx
    have d2 : ρ (.tmp 21) = .agg #[.slice sa ks.length cap] := (hA.dep 2 (by decide) 21 rfl).trans (hd 2 (by decide))
    clear hd
    refine runq_call 56 _ _ rfl #[.agg #[.slice sa ks.length cap]] (hA.func _) (by simp [d2]) (fun args W => Try.call56 args W) ((allR_any ks _ W (HS.out.ext hE) (by have := (V).out.n5; omega)).mono ?_)
    rintro e w' ⟨v, rfl, hb, hi⟩
    exact ⟨_, rfl, hb, hi⟩
  case s4 =>
    intro val ρ W hE hz hd hA hx
    have d0 : ρ (.tmp 19) = .agg #[.slice sa ks.length cap] := (hA.dep 0 (by decide) 19 rfl).trans (hd 0 (by decide))
    have ds : ρ (.tmp 20) = .slice la s.length lcap := (hA.dep 1 (by decide) 20 rfl).trans (hd 1 (by decide))
    have qa : IsInts W .i64 (val 3) (upL ks.length) := hd 3 (by decide)
    have da : ρ (.tmp 22) = val 3 := hA.dep 3 (by decide) 22 rfl
    clear hd
    refine runq_call 49 _ _ rfl #[.agg #[.slice sa ks.length cap], .slice la s.length lcap, val 3] (hA.func _) (by simp [d0, ds, da]) (fun args W => Try.call49 args W) ((pulledA_any ks (s) _ _ _ W (HS.out.ext hE) (HL.out.ext hE) qa (V).out (HIS).out).mono ?_)
    rintro e w' ⟨v, rfl, hb, hi⟩
    exact ⟨_, rfl, hb, v, by rw [HOKX.out], by rw [HXLX.out]; exact hi⟩
  case s5 =>
    intro val ρ W hE hz hd hA hx
    obtain ⟨r, h1, h2⟩ : ∃ r, val 4 = .tuple #[r, .bool ok] ∧ IsInts W .i64 r XL := hd 4 (by decide)
    have dd : ρ (.tmp 23) = .tuple #[r, .bool ok] := (hA.dep 4 (by decide) 23 rfl).trans h1
    exact runq_val (W' := W) (v := .tuple #[r, .bool ok]) (by simp [execOp, dd, go_sem]) (Below.refl _ _) ⟨r, rfl, h2⟩
  case s6 =>
    intro val ρ W hE hz hd hA hx
    obtain ⟨r, h1, h2⟩ : ∃ r, val 5 = .tuple #[r, .bool ok] ∧ IsInts W .i64 r XL := hd 5 (by decide)
    have dd : ρ (.tmp 18) = .tuple #[r, .bool ok] := (hA.dep 5 (by decide) 18 rfl).trans h1
    exact runq_val (W' := W) (v := r) (by simp [execOp, dd, go_sem]) (Below.refl _ _) h2
  case s7 =>
    intro val ρ W hE hz hd hA hx
    obtain ⟨r, h1, h2⟩ : ∃ r, val 5 = .tuple #[r, .bool ok] ∧ IsInts W .i64 r XL := hd 5 (by decide)
    have dd : ρ (.tmp 18) = .tuple #[r, .bool ok] := (hA.dep 5 (by decide) 18 rfl).trans h1
    exact runq_val (W' := W) (v := .bool ok) (by simp [execOp, dd, go_sem]) (Below.refl _ _) rfl
  case s8 =>
    intro val ρ W hE hz hd hA hx
    have qx : IsInts W .i64 (val 6) XL := hd 6 (by decide)
    have dx : ρ (.tmp 24) = val 6 := hA.dep 6 (by decide) 24 rfl
    exact runq_val (W' := W) (v := val 6) (by simp [execOp, dx, go_sem]) (Below.refl _ _) qx
  case send =>
    intro val WW hE hzz hv
    obtain ⟨-, -, -, -, -, -, -, -, q8, q9, -⟩ := hv
    have q9' : val 9 = .bool ok := q9
    replace q8 : IsInts WW .i64 (val 8) XL := q8
    obtain ⟨X8, hX8⟩ : ∃ X8, X8 = val 8 := ⟨_, rfl⟩
    rw [← hX8] at q8
    simp only [putD, q9', ← hX8]
    go_frame
    clear q9 q9' hX8 hzz
    obtain ⟨xa, xc, rfl, -, -, -⟩ := q8.spec
    have HX8 := Lib.hid q8
    clear q8
    have hEW : Ext U WW := hE
    have HEW := Lib.hid (HW.out.trans' hEW)
    have HSW := Lib.hid (HS.out.ext hEW)
    have HRW := Lib.hid (HR.out.ext hEW)
    have k2 := cell_ext hEW k0
    have hz2 := World.block_lt_of_cell? _ _ k2
    simp only at hz2
    clear hE hEW
    cases ok
    · have hf : fullP allW ks s = true := by have := HOKX.out; cases h : fullP allW ks s <;> simp [h] at this ⊢
      have HF := Lib.hid (show leadsL ks allW s = [] by rw [leadsL_eq, hf]; rfl)
      clear hf
      go_wp2_with fail
      refine bodyPost_ret (v := .tuple #[.slice none 0 0, .int .i64 17]) (by simp [results, Try.results39, go_sem]) rfl ?_
      have hne : ¬ stErr ks s ≠ 0 := fun h => h HC.out
      exact ⟨_, by unfold nextErr; rw [if_neg hne, if_pos HF.out], HEW.out, by unfold nextL; rw [if_neg hne, HF.out]; exact IsInts.nil _ _⟩
    · have hf : fullP allW ks s = false := by have := HOKX.out; cases h : fullP allW ks s <;> simp [h] at this ⊢
      have hxl : XL = upP allW s := by rw [HXLX.out, hf]; rfl
      have hll : leadsL ks allW s = leadsK ks XL ks.length := by rw [leadsL_eq, hf, hxl]; rfl
      have hxs := up_st HIS.out hf
      rw [← hxl] at hxs
      have cl := fun W h1 h2 h3 => leadsR_any ks XL (.slice sa ks.length cap) (.slice ra (rowsL ks (rkN ks)).length rc) (.slice xa XL.length xc) W h1 h2 h3 V.out hxs
      rw [← hll] at cl
      obtain ⟨L, hL⟩ : ∃ L, L = leadsL ks allW s := ⟨_, rfl⟩
      rw [← hL] at cl
      have HLL := Lib.hid hL
      have CL := Lib.hid cl
      have hne : ¬ stErr ks s ≠ 0 := fun h => h HC.out
      have HNE := Lib.hid hne
      clear hf hxl hll hxs cl hL HXLX HOKX hne



      go_wp2_with fail
      refine callWR (W0 := WW) (g := ⟨WW, Below.refl _ _⟩) (by exact (by repeat (first | exact Below.refl _ _ | refine Ext.al ?_ _ | refine Ext.dr ?_ | refine Ext.drN ?_ _ | refine Ext.gr ?_ _ | refine Ext.set ?_ (by simp) _ | (refine Ext.trans' ?_ (by assumption))))) (CL.out _ (HSW.out.ext (by exact (by repeat (first | exact Below.refl _ _ | refine Ext.al ?_ _ | refine Ext.dr ?_ | refine Ext.drN ?_ _ | refine Ext.gr ?_ _ | refine Ext.set ?_ (by simp) _ | (refine Ext.trans' ?_ (by assumption)))))) (HRW.out.ext (by exact (by repeat (first | exact Below.refl _ _ | refine Ext.al ?_ _ | refine Ext.dr ?_ | refine Ext.drN ?_ _ | refine Ext.gr ?_ _ | refine Ext.set ?_ (by simp) _ | (refine Ext.trans' ?_ (by assumption)))))) (HX8.out.ext (by exact (by repeat (first | exact Below.refl _ _ | refine Ext.al ?_ _ | refine Ext.dr ?_ | refine Ext.drN ?_ _ | refine Ext.gr ?_ _ | refine Ext.set ?_ (by simp) _ | (refine Ext.trans' ?_ (by assumption))))))) (fun _ _ ⟨_, _, r, _⟩ => r) fun _ g1 hgr hr => ?_
      obtain ⟨lv, rfl, -, hI⟩ := hr
      clear hgr
      obtain ⟨a1, c1, rfl, -⟩ := hI.spec
      clear hI
      cases L with
      | nil =>
        go_wp2_with fail
        refine bodyPost_ret (v := .tuple #[.slice none 0 0, .int .i64 17]) (by simp [results, Try.results39, go_sem]) rfl ?_
        exact ⟨_, by unfold nextErr; rw [if_neg HNE.out, if_pos HLL.out.symm], HEW.out.trans' (grow_below WW _), by unfold nextL; rw [if_neg HNE.out, ← HLL.out]; exact IsInts.nil _ _⟩
      | cons y l =>
        have hlz : (((y :: l).length : Int) == 0) = false := by rw [beq_eq_false_iff_ne, List.length_cons]; omega
        have hlz2 : (((l.length : Int) + 1) == 0) = false := by rw [beq_eq_false_iff_ne]; omega
        go_wp2_with fail
        refine callWR (W0 := WW) (g := g1) (by exact (by repeat (first | exact Below.refl _ _ | refine Ext.al ?_ _ | refine Ext.dr ?_ | refine Ext.drN ?_ _ | refine Ext.gr ?_ _ | refine Ext.set ?_ (by simp) _ | (refine Ext.trans' ?_ (by assumption))))) (CL.out _ (HSW.out.ext (by exact (by repeat (first | exact Below.refl _ _ | refine Ext.al ?_ _ | refine Ext.dr ?_ | refine Ext.drN ?_ _ | refine Ext.gr ?_ _ | refine Ext.set ?_ (by simp) _ | (refine Ext.trans' ?_ (by assumption)))))) (HRW.out.ext (by exact (by repeat (first | exact Below.refl _ _ | refine Ext.al ?_ _ | refine Ext.dr ?_ | refine Ext.drN ?_ _ | refine Ext.gr ?_ _ | refine Ext.set ?_ (by simp) _ | (refine Ext.trans' ?_ (by assumption)))))) (HX8.out.ext (by exact (by repeat (first | exact Below.refl _ _ | refine Ext.al ?_ _ | refine Ext.dr ?_ | refine Ext.drN ?_ _ | refine Ext.gr ?_ _ | refine Ext.set ?_ (by simp) _ | (refine Ext.trans' ?_ (by assumption))))))) (fun _ _ ⟨_, _, r, _⟩ => r) fun _ g2 hgr hr => ?_
        obtain ⟨lv, rfl, -, hI⟩ := hr
        clear hgr
        obtain ⟨a2, c2, rfl, -⟩ := hI.spec
        have HI := Lib.hid hI
        clear hI
        go_wp2_with fail
        refine bodyPost_ret (by simp [results, Try.results39, go_sem]; rfl) rfl ?_
        exact ⟨_, by unfold nextErr; rw [if_neg HNE.out, if_neg (by rw [← HLL.out]; simp)], HEW.out.trans' (grow_below WW _), by unfold nextL; rw [if_neg HNE.out, ← HLL.out]; exact HI.out⟩
end Go.Proofs.Ytndgaklcnhoddaa
