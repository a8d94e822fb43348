/-
 The statement PoolNamed holds: if runners are named otherwise, dividends go with them, and the account stays; for every valid book, a finish, and names by numbers. No condition.
-/
import Derived.Test.YtphajlldghcnnaaNamW
import Derived.Test.YtphajlldghcnnaaPn
import Derived.Test.YtphajlldghcnnaaPm
import Derived.Test.YtphajlldghcnnaaBalanced
import Derived.Test.YtphajlldghcnnaaPx
import Derived.Test.YtphajlldghcnnaaRoveG
namespace Go.Proofs.Ytphajlldghcnnaa
open Go.RowKit Go.Shelf
def offB (b : Bk) : Bk := { b with fav := false }
theorem cas_app (m : Nat) : (cas (m + 1)).map iRow = (cas m).map iRow ++ [[.int .i64 m]] := by rw [cas_succ, List.map_append]; rfl
set_option maxRecDepth 200000 in
set_option maxHeartbeats 8000000 in
theorem poolNamed_any (b : Bk) (ba sa : Option Addr) (bcap scap : Nat) (nv : Value) (bs : List Int) (sv : Value) (ss : List Int) (w : World) (hv : IsBook w b ba bcap sa scap) (hb : IsRows w 1 nv (bs.map fun n => [.int .u8 n])) (hw8 : ∀ x ∈ bs, (Lit.int .u8 x).wf = true) (hsb : IsRows w 1 sv (ss.map fun n => [.int .u8 n])) (hs8 : ∀ x ∈ ss, (Lit.int .u8 x).wf = true) : Calls Try.prog 13 #[.agg #[.int .i64 b.kd, .int .i64 b.n, .slice ba b.bets.length bcap, .slice sa b.scr.length scap, .bool b.fav, .int .i64 b.car, .int .i64 b.duty, .int .i64 b.step], nv, sv] w fun e w' => e = .returned (.bool true) ∧ Ext w w' := by
 have hbI : IsInts w .u8 nv bs := hb
 have hsI : IsInts w .u8 sv ss := hsb
 obtain ⟨na, ncap, rfl, hn1, hn2, -⟩ := hbI.spec
 obtain ⟨sna, sncap, rfl, hsn1, hsn2, -⟩ := hsI.spec
 have HN := Lib.hid hbI
 have HSN := Lib.hid hsI
 have H8 := Lib.hid (u8l hw8)
 have HS8 := Lib.hid (u8l hs8)
 clear hb hbI hw8 hsb hsI hs8
 have HV := Lib.hid hv
 clear hv
 go_enter Try.func13, Try.ntmps13
 go_upto_region 1 with (fail)
 obtain ⟨W0, hW0⟩ : ∃ W0, W0 = w.alloc (.cells #[.int .i64 b.kd, .int .i64 b.n, .slice ba b.bets.length bcap, .slice sa b.scr.length scap, .bool b.fav, .int .i64 b.car, .int .i64 b.duty, .int .i64 b.step] 25) := ⟨_, rfl⟩
 have hE : Ext w W0 := by rw [hW0]; exact xx
 have k0 : W0.cell? ⟨w.heap.size, 0, none⟩ = some (.int .i64 b.kd) := by rw [hW0]; simp [go_sem]
 have k1 : W0.cell? ⟨w.heap.size, 1, none⟩ = some (.int .i64 b.n) := by rw [hW0]; simp [go_sem]
 have k2 : W0.cell? ⟨w.heap.size, 2, none⟩ = some (.slice ba b.bets.length bcap) := by rw [hW0]; simp [go_sem]
 have k3 : W0.cell? ⟨w.heap.size, 3, none⟩ = some (.slice sa b.scr.length scap) := by rw [hW0]; simp [go_sem]
 have k4 : W0.cell? ⟨w.heap.size, 4, none⟩ = some (.bool b.fav) := by rw [hW0]; simp [go_sem]
 have k5 : W0.cell? ⟨w.heap.size, 5, none⟩ = some (.int .i64 b.car) := by rw [hW0]; simp [go_sem]
 have k6 : W0.cell? ⟨w.heap.size, 6, none⟩ = some (.int .i64 b.duty) := by rw [hW0]; simp [go_sem]
 have k7 : W0.cell? ⟨w.heap.size, 7, none⟩ = some (.int .i64 b.step) := by rw [hW0]; simp [go_sem]
 have hz : w.heap.size < W0.heap.size := World.block_lt_of_cell? _ _ k0
 have HS := Lib.hid (HV.out.ext hE)
 have HW := Lib.hid hE
 have HROW0 : Hid (RowB W0 w.heap.size (#[.int .i64 b.kd, .int .i64 b.n, .slice ba b.bets.length bcap, .slice sa b.scr.length scap, .bool b.fav, .int .i64 b.car, .int .i64 b.duty, .int .i64 b.step])) := Lib.hid (by rw [hW0]; exact World.alloc_heap_new w _)
 rw [← hW0]
 clear hW0
 have HNW := Lib.hid (HN.out.ext hE)
 have HSW := Lib.hid (HSN.out.ext hE)
 clear hE




 go_wp2_with fail
 refine callW (W0 := W0) (g := ⟨W0, Below.refl _ _⟩) xx (fineL_any b ba sa bcap scap _ (HS.out.ext xx)) fun g1 hgr => ?_
 clear hgr
 cases hfi : fineB b
 ·skip

  go_wp2_with fail
  refine callW (W0 := W0) (g := g1) xx (worksL_any _) fun g2 hgr => ?_
  clear hgr
  go_wp2_with fail
  go_ret
  exact ⟨rfl, HW.out.trans' (grow_below W0 _)⟩

 have H0 := Lib.hid (fine_val hfi)
 have V := Lib.hid (bval_of (fine_val hfi))
 clear hfi
 by_cases hl : 20 < bs.length
 ·have hli : (20 : Int) < (bs.length : Int) := by omega
  have HL := Lib.hid hl
  clear hl

  go_wp2_with fail
  refine callW (W0 := W0) (g := g1) xx (worksL_any _) fun g3 hgr => ?_
  clear hgr
  go_wp2_with fail
  go_ret
  exact ⟨rfl, HW.out.trans' (grow_below W0 _)⟩

 have hli : ¬ ((20 : Int) < (bs.length : Int)) := by omega
 have HL := Lib.hid hl
 clear hl
 by_cases hl2 : 20 < ss.length
 ·have hli2 : (20 : Int) < (ss.length : Int) := by omega
  have HL2 := Lib.hid hl2
  clear hl2

  go_wp2_with fail
  refine callW (W0 := W0) (g := g1) xx (worksL_any _) fun g4 hgr => ?_
  clear hgr
  go_wp2_with fail
  go_ret
  exact ⟨rfl, HW.out.trans' (grow_below W0 _)⟩

 have hli2 : ¬ ((20 : Int) < (ss.length : Int)) := by omega
 have hl2 : ss.length ≤ 20 := by omega
 go_upto_region 3 with (fail)
 obtain ⟨U, hU⟩ : ∃ zz9, zz9 = (grow W0 g1) := ⟨_, rfl⟩
 have eU : Ext W0 U := by rw [hU]; exact xx
 replace k0 := cell_ext eU k0
 replace k1 := cell_ext eU k1
 replace k2 := cell_ext eU k2
 replace k3 := cell_ext eU k3
 replace k4 := cell_ext eU k4
 replace k5 := cell_ext eU k5
 replace k6 := cell_ext eU k6
 replace k7 := cell_ext eU k7
 replace HS := Lib.hid (HS.out.ext eU)
 replace HNW := Lib.hid (HNW.out.ext eU)
 replace HSW := Lib.hid (HSW.out.ext eU)
 replace HROW0 := Lib.hid (HROW0.out.ext eU)
 replace HW := Lib.hid (HW.out.trans' eU)
 rw [← hU]
 replace hz := World.block_lt_of_cell? _ _ k0
 clear hU eU
 simp only at hz
 have kf := HROW0.out.fr 4
 go_upto_region 5 with (fail)
 obtain ⟨X, hX⟩ : ∃ X, X = U.setCell ⟨w.heap.size, 4, none⟩ (.bool false) := ⟨_, rfl⟩
 rw [← hX]
 obtain ⟨c, hc⟩ : ∃ c, c = offB b := ⟨_, rfl⟩
 have hrc : RowB X w.heap.size #[.int .i64 c.kd, .int .i64 c.n, .slice ba c.bets.length bcap, .slice sa c.scr.length scap, .bool c.fav, .int .i64 c.car, .int .i64 c.duty, .int .i64 c.step] := by rw [hX, hc]; exact heap_setCell_row HROW0.out 4 (.bool false)
 have hWX : Ext w X := by rw [hX]; exact HW.out.setCell (Nat.le_refl _) _
 have VC : Hid (BVal c) := Lib.hid (by rw [hc]; exact ⟨V.out.kd, V.out.n, V.out.car, V.out.duty, V.out.step, V.out.many, V.out.odd, V.out.left, V.out.scr, V.out.inc⟩)
 have HFC : Hid (c.fav = false) := Lib.hid (by rw [hc]; rfl)
 have HCB : Hid (IsBook X c ba bcap sa scap) := Lib.hid (by rw [hc]; exact ⟨(HV.out.ext hWX).bets, (HV.out.ext hWX).scr⟩)
 have HNX := Lib.hid (HN.out.ext hWX)
 have HSX := Lib.hid (HSN.out.ext hWX)
 have HWX := Lib.hid hWX
 have c0 : X.cell? ⟨w.heap.size, 0, none⟩ = some (.int .i64 c.kd) := by rw [cell_of_row _ _ _ _ _ _ hrc]; rfl
 have c1 : X.cell? ⟨w.heap.size, 1, none⟩ = some (.int .i64 c.n) := by rw [cell_of_row _ _ _ _ _ _ hrc]; rfl
 have c2 : X.cell? ⟨w.heap.size, 2, none⟩ = some (.slice ba c.bets.length bcap) := by rw [cell_of_row _ _ _ _ _ _ hrc]; rfl
 have c3 : X.cell? ⟨w.heap.size, 3, none⟩ = some (.slice sa c.scr.length scap) := by rw [cell_of_row _ _ _ _ _ _ hrc]; rfl
 have c4 : X.cell? ⟨w.heap.size, 4, none⟩ = some (.bool c.fav) := by rw [cell_of_row _ _ _ _ _ _ hrc]; rfl
 have c5 : X.cell? ⟨w.heap.size, 5, none⟩ = some (.int .i64 c.car) := by rw [cell_of_row _ _ _ _ _ _ hrc]; rfl
 have c6 : X.cell? ⟨w.heap.size, 6, none⟩ = some (.int .i64 c.duty) := by rw [cell_of_row _ _ _ _ _ _ hrc]; rfl
 have c7 : X.cell? ⟨w.heap.size, 7, none⟩ = some (.int .i64 c.step) := by rw [cell_of_row _ _ _ _ _ _ hrc]; rfl
 have zc := hrc.lt
 have hvn := VC.out.n
 clear hX hc hrc hWX k0 k1 k2 k3 k4 k5 k6 k7 hz kf HS HNW HSW HROW0 HW V H0 HV HN HSN
 go_wp2_with fail
 go_loopw [7, 8] (fun lv iv W => ∃ i : Nat, (i : Int) ≤ c.n ∧ iv = .int .i64 i ∧ Owns W X.heap.size 3 1 lv ((cas i).map iRow) ∧ Ext X W) (fun _ iv _ => c.n.toNat - (intOf iv).toNat)
 case atStart => exact ⟨0, by omega, rfl, Owns.nil _ _ _ _, Below.refl _ _⟩
 case round =>
  obtain ⟨i, hi, rfl, hg, hE⟩ := hrel
  have HG := Lib.hid hg
  have HE := Lib.hid hE
  obtain ⟨ga, gn, gc, rfl⟩ := hg.isSlice
  have i1 := cell_ext hE c1
  have iz := World.block_lt_of_cell? _ _ i1
  simp only at iz
  have hzw := hE.size
  by_cases hlt : (i : Int) < c.n
  ·have HT := Lib.hid (cas_app i)
   have HLEN : Hid (((cas i).map iRow).length + [[Value.int .i64 i]].length ≤ 1000000) := Lib.hid (by unfold cas; simp; omega)
   clear hg hE
   go_wp2_with (at_builtin; refine wpOwn rfl (.tmp 47) (.tmp 49) elInt rfl X.heap.size rfl (HG.out.ext (by exact xx)) wr.heap.size 0 1 [[.int .i64 i]] rfl (by simp) (newRowAt _ [.int .i64 i] _ _ _ rfl rfl) (by simp [Value.oneCell']) HLEN.out (by simp; omega) ?_)
   intro v' W4 hown4 hb4
   obtain ⟨va', vn, vc', rfl⟩ := hown4.isSlice
   have hE4 : Ext X W4 := Below.trans (HE.out.trans' (by exact xx : Ext wr (wr.alloc (.cells #[.int .i64 i] 3)))) hb4
   have HO4 := Lib.hid hown4
   have HE4 := Lib.hid hE4
   clear hown4 hb4 hE4
   go_wp2_with fail
   go_roundw
   case rel => exact ⟨i + 1, by omega, by go_num, by rw [HT.out]; exact HO4.out, HE4.out⟩
   case measure => simp [intOf]; omega
  ·have hie : i = c.n.toNat := by omega
   rw [hie] at hg
   have hlc : (cas c.n.toNat).length = c.n.toNat := by unfold cas; simp
   obtain ⟨lb, lc, e9, hlc1, hlc2, hlB, hN⟩ := hg.cellsN (by rw [hlc]; omega)
   cases e9
   go_upto_region 9 with (fail)
   rw [hlc]
   obtain ⟨N, hNN⟩ : ∃ N, N = c.n.toNat := ⟨_, rfl⟩
   rw [hlc] at hN hlc1
   rw [← hNN] at hN hlc1 ⊢
   have hNc : (N : Int) = c.n := by omega
   have hNam0 : IsNam c.n (cas N) := by rw [hNN]; exact isNam_id (by omega)
   obtain ⟨T, rfl⟩ : ∃ T, T = wr := ⟨_, rfl⟩
   have hwT : w.heap.size < lb := by omega
   have HNM0 := Lib.hid hNam0
   have HNB0 : Hid (NumB T lb N (gt (cas N))) := Lib.hid (by rw [hNN] at hN ⊢; exact hN)
   have HET := Lib.hid hE
   have C1T := Lib.hid i1
   have HNC := Lib.hid hNc
   clear hg hie hlc hN hNN hNam0 hE i1 iz hzw hlt hi hNc
   go_wp2_with fail
   go_loopw [9] (fun iv W => ∃ (i : Nat) (σ : List Int), i ≤ ss.length ∧ iv = .int .i64 i ∧ IsNam c.n σ ∧ NumB W lb N (gt σ) ∧ Kept (fun k => k ≠ lb) T W) (fun iv _ => ss.length - (intOf iv).toNat)
   case atStart => exact ⟨0, _, by omega, rfl, HNM0.out, HNB0.out, Kept.refl _ _⟩
   case round =>
    obtain ⟨i, σ, hi, rfl, hnam, hnb, hkp⟩ := hrel
    have HNAM := Lib.hid hnam
    have HNB := Lib.hid hnb
    have HKP := Lib.hid hkp
    have hEw : Ext X wr := ext_kept HET.out hkp hlB
    have i1 := hkp.cell C1T.out (by show w.heap.size ≠ lb; omega)
    have iz := World.block_lt_of_cell? _ _ i1
    simp only at iz
    have hsl := hnam.len
    by_cases hlt : i < ss.length
    ·have hii : (i : Int) < (ss.length : Int) := by omega
     obtain ⟨_, _, e9, -, -, hnc⟩ := nums_cell HSX.out
     cases e9
     obtain ⟨sb, so, hs9, hnc2⟩ := hnc i hlt
     subst hs9
     obtain ⟨d0, hzd⟩ := hnc2 wr hEw
     have hx8 := HS8.out ss[i] (List.getElem_mem hlt)
     rw [gt_get] at hx8
     obtain ⟨u, hu⟩ : ∃ u, u = gt ss i := ⟨_, rfl⟩
     rw [← hu] at d0 hx8
     obtain ⟨un, rfl⟩ : ∃ un : Nat, u = (un : Int) := ⟨u.toNat, by omega⟩
     obtain ⟨x, hx⟩ : ∃ x, x = i % N := ⟨_, rfl⟩
     obtain ⟨y, hy⟩ : ∃ y, y = un % N := ⟨_, rfl⟩
     have hN0 : 0 < N := by have := HNC.out; omega
     have hxN : x < N := by rw [hx]; exact Nat.mod_lt _ hN0
     have hyN : y < N := by rw [hy]; exact Nat.mod_lt _ hN0
     have hm1 : Int.tmod (i : Int) c.n = (x : Int) := by rw [Int.tmod_eq_emod_of_nonneg (by omega), hx, ← HNC.out]; rfl
     have hm2 : Int.tmod (un : Int) c.n = (y : Int) := by rw [Int.tmod_eq_emod_of_nonneg (by omega), hy, ← HNC.out]; rfl
     have hw1 : IntKind.i64.wrap (un : Int) = (un : Int) := IntWalk.i64_in _ (by omega)
     have hnz : ¬ c.n = 0 := by omega
     have hxi : (x : Int) < (N : Int) := by omega
     have hyi : (y : Int) < (N : Int) := by omega
     have hxc : (x : Int) < c.n := by have := HNC.out; omega
     have hyc : (y : Int) < c.n := by have := HNC.out; omega
     have HXC := Lib.hid hxc
     have HYC := Lib.hid hyc
     have hlbz := hnb.lt
     clear hnam hnb hkp hEw hnc hnc2 hu hx hy hxc hyc
     go_upto_region 12 with (fail)
     go_quiet (fail)
     go_upto_region 13 with (fail)
     obtain ⟨Y, hY⟩ : ∃ Y, Y = wr.drewN nq := ⟨_, rfl⟩
     have hnY : NumB Y lb N (gt σ) := by rw [hY]; exact HNB.out.of_heap rfl
     have hkY : Kept (fun k => k ≠ lb) T Y := by
      rw [hY]
      exact HKP.out.trans ((Kept.of_below (Ext.drN (Below.refl _ wr) nq)).mono fun k hk _ => hk)
     rw [← hY]
     have qa := hnY.cell x hxN
     have qb := hnY.cell y hyN
     have fa := hnY.free x
     have fb := hnY.free y
     have zq := hnY.lt
     have qb1 := (hnY.set x (gt σ y)).cell y hyN
     have fb1 := (hnY.set x (gt σ y)).free y
     have HNY := Lib.hid hnY
     have HKY := Lib.hid hkY
     have hσx : x < σ.length := by have := HNC.out; omega
     have hσy : y < σ.length := by have := HNC.out; omega
     have HSW2 := Lib.hid fun j => swN_gt (i := j) hσx hσy
     clear hY hnY hkY d0 i1 iz hzd hm1 hm2 hw1 hnz hx8 hσx hσy
     go_region
     go_wp2_with fail
     go_roundw
     case rel =>
      refine ⟨i + 1, swN x y σ, by omega, by go_num, HNAM.out.sw HXC.out HYC.out, ?_, (((HKY.out.setCell (p := ⟨lb, x, none⟩) (fun _ hn => hn rfl) (.int .i64 (gt σ y))).setCell (p := ⟨lb, y, none⟩) (fun _ hn => hn rfl) (.int .i64 (gt σ x))).drew)⟩
      exact NumB.of_heap (W := (Y.setCell ⟨lb, x, none⟩ (.int .i64 (gt σ y))).setCell ⟨lb, y, none⟩ (.int .i64 (gt σ x))) (((HNY.out.set x _).set y _).congr fun j _ => (HSW2.out j).symm) rfl
     case measure => simp [intOf]; omega
    ·have hii : ¬ ((i : Int) < (ss.length : Int)) := by omega
     go_upto_region 14 with (fail)
     obtain ⟨S, rfl⟩ : ∃ S, S = wr := ⟨_, rfl⟩
     have HSG : Hid (IsInts S .i64 (.slice (some ⟨lb, 0, none⟩) N gc) σ) := Lib.hid (hnb.intsC (by have := HNC.out; omega) hlc1 hlc2)
     replace c0 := cell_ext hEw c0
     replace c1 := cell_ext hEw c1
     replace c2 := cell_ext hEw c2
     replace c3 := cell_ext hEw c3
     replace c4 := cell_ext hEw c4
     replace c5 := cell_ext hEw c5
     replace c6 := cell_ext hEw c6
     replace c7 := cell_ext hEw c7
     have zs := World.block_lt_of_cell? _ _ c0
     simp only at zs
     have HCS := Lib.hid (HCB.out.ext hEw)
     have HNS := Lib.hid (HNX.out.ext hEw)
     have HWS := Lib.hid (HWX.out.trans' hEw)
     clear hnam hnb hkp hEw i1 iz hlt hii hi zc HKP HNB





     go_wp2_with fail
     refine callWR (W0 := S) (g := ⟨S, Below.refl _ _⟩) xx (finishL_any _ bs c ba sa bcap scap _ (HCS.out.ext xx) VC.out (HNS.out.ext xx) H8.out) (fun _ _ ⟨_, _, _, r, _⟩ => r) fun _ g1 hgr hr => ?_
     obtain ⟨fv, ps, rfl, -, hll, hfs⟩ := hr
     clear hgr
     obtain ⟨fa, fcap, rfl, -, -, -⟩ := hll.fin.spec
     have HF := Lib.hid hll.fin
     have FV : Hid (FinV c (finsOf ps)) := Lib.hid (by rw [hfs]; exact finL_val VC.out bs)
     have hpl : ps.length ≤ 8 := by
      have h1 : (finsOf ps).length = ps.length := by simp [finsOf]
      rw [← h1, hfs]
      exact finN_len _ _ _
     clear hll hfs

     obtain ⟨y, hy⟩ : ∃ y, y = namC c σ := ⟨_, rfl⟩
     have t1 : ∀ w, IsBook w c ba bcap sa scap → IsFin w (.slice fa ps.length fcap) ps → IsInts w .i64 (.slice (some ⟨lb, 0, none⟩) N gc) σ → Calls Try.prog 50 #[.agg #[.int .i64 c.kd, .int .i64 c.n, .slice ba c.bets.length bcap, .slice sa c.scr.length scap, .bool c.fav, .int .i64 c.car, .int .i64 c.duty, .int .i64 c.step], .slice fa ps.length fcap, .slice (some ⟨lb, 0, none⟩) N gc] w fun e w' => Ext w w' ∧ ∃ (ya ysa : Option Addr) (yc ysc : Nat) (gv : Value) (qs : List (Value × List Int)), e = .returned (.tuple #[.agg #[.int .i64 y.kd, .int .i64 y.n, .slice ya y.bets.length yc, .slice ysa y.scr.length ysc, .bool y.fav, .int .i64 y.car, .int .i64 y.duty, .int .i64 y.step], gv]) ∧ IsBook w' y ya yc ysa ysc ∧ IsFin w' gv qs ∧ finsOf qs = namF c σ (finsOf ps) := fun w h1 h2 h3 => by
      have h := named_any ps (.slice fa ps.length fcap) σ (.slice (some ⟨lb, 0, none⟩) N gc) c ba sa bcap scap w h1 h2 h3 HNAM.out VC.out hpl
      unfold RetNam bookV at h
      rw [← hy] at h
      exact h
     have T1 := Lib.hid t1
     have HY := Lib.hid hy
     clear t1 hy
     go_wp2_with fail
     refine callWR (W0 := S) (g := g1) xx (T1.out _ (HCS.out.ext xx) (HF.out.ext xx) (HSG.out.ext xx)) (fun _ _ h => h.1) fun _ g2 hgr hr => ?_
     obtain ⟨-, ya, ysa, yc, ysc, gv, qs, rfl, hyb, hgf, hqs⟩ := hr
     replace HF := Lib.hid (HF.out.ext hgr)
     clear hgr
     obtain ⟨ga2, gc2, rfl, -, -, -⟩ := hgf.spec
     have HYB := Lib.hid hyb
     have HG := Lib.hid hgf
     have HQS := Lib.hid hqs
     clear hyb hgf hqs

     go_upto_region 16 with (fail)
     obtain ⟨Z, hZ⟩ : ∃ zz9, zz9 = (grow S g2).alloc (.cells #[.int .i64 y.kd, .int .i64 y.n, .slice ya y.bets.length yc, .slice ysa y.scr.length ysc, .bool y.fav, .int .i64 y.car, .int .i64 y.duty, .int .i64 y.step] 25) := ⟨_, rfl⟩
     have p0 : Z.cell? ⟨(grow S g2).heap.size, 0, none⟩ = some (.int .i64 y.kd) := by rw [hZ]; simp [go_sem]
     have p1 : Z.cell? ⟨(grow S g2).heap.size, 1, none⟩ = some (.int .i64 y.n) := by rw [hZ]; simp [go_sem]
     have p2 : Z.cell? ⟨(grow S g2).heap.size, 2, none⟩ = some (.slice ya y.bets.length yc) := by rw [hZ]; simp [go_sem]
     have p3 : Z.cell? ⟨(grow S g2).heap.size, 3, none⟩ = some (.slice ysa y.scr.length ysc) := by rw [hZ]; simp [go_sem]
     have p4 : Z.cell? ⟨(grow S g2).heap.size, 4, none⟩ = some (.bool y.fav) := by rw [hZ]; simp [go_sem]
     have p5 : Z.cell? ⟨(grow S g2).heap.size, 5, none⟩ = some (.int .i64 y.car) := by rw [hZ]; simp [go_sem]
     have p6 : Z.cell? ⟨(grow S g2).heap.size, 6, none⟩ = some (.int .i64 y.duty) := by rw [hZ]; simp [go_sem]
     have p7 : Z.cell? ⟨(grow S g2).heap.size, 7, none⟩ = some (.int .i64 y.step) := by rw [hZ]; simp [go_sem]
     have eZ : Ext S Z := by rw [hZ]; exact xx
     have eZc : Ext (grow S g2) Z := by rw [hZ]; exact xx
     replace c0 := cell_ext eZ c0
     replace c1 := cell_ext eZ c1
     replace c2 := cell_ext eZ c2
     replace c3 := cell_ext eZ c3
     replace c4 := cell_ext eZ c4
     replace c5 := cell_ext eZ c5
     replace c6 := cell_ext eZ c6
     replace c7 := cell_ext eZ c7
     replace HCS := Lib.hid (HCS.out.ext eZ)
     replace HNS := Lib.hid (HNS.out.ext eZ)
     replace HSG := Lib.hid (HSG.out.ext eZ)
     replace HF := Lib.hid (HF.out.ext eZc)
     replace HYB := Lib.hid (HYB.out.ext eZc)
     replace HG := Lib.hid (HG.out.ext eZc)
     replace HWS := Lib.hid (HWS.out.trans' eZ)
     rw [← hZ]
     obtain ⟨qy, hqy⟩ : ∃ b, b = (grow S g2).heap.size := ⟨_, rfl⟩
     rw [← hqy] at p0 p1 p2 p3 p4 p5 p6 p7 ⊢
     replace zs := World.block_lt_of_cell? _ _ c0
     have zqy := World.block_lt_of_cell? _ _ p0
     simp only at zqy
     clear hZ eZ eZc hqy
     have VY : Hid (BVal y) := Lib.hid (by rw [HY.out]; exact nam_val VC.out HNAM.out)
     have GV : Hid (FinV y (finsOf qs)) := Lib.hid (by rw [HY.out, HQS.out]; exact nam_fin VC.out HNAM.out FV.out)
     have FE := finErr_of (bkErr_of VC.out) FV.out
     have GE := finErr_of (bkErr_of VY.out) GV.out
     have hacc : accA y (finsOf qs) = accA c (finsOf ps) := by rw [HY.out, HQS.out]; exact nam_acc HNAM.out HFC.out FV.out
     obtain ⟨D, hD⟩ : ∃ D, D = divP c (finsOf ps) := ⟨_, rfl⟩
     obtain ⟨M, hM⟩ : ∃ M, M = divP y (finsOf qs) := ⟨_, rfl⟩
     obtain ⟨A, hA⟩ : ∃ A, A = accA c (finsOf ps) := ⟨_, rfl⟩
     have t2 := fun w h1 h2 => paidL_any ps (.slice fa ps.length fcap) c ba sa bcap scap w h1 h2 FE
     have t3 := fun w h1 h2 => paidL_any qs (.slice ga2 qs.length gc2) y ya ysa yc ysc w h1 h2 GE
     have t4 := fun w h1 h2 => account_any ps (.slice fa ps.length fcap) c ba sa bcap scap w h1 h2
     have t5 := fun w h1 h2 => account_any qs (.slice ga2 qs.length gc2) y ya ysa yc ysc w h1 h2
     unfold RetPaid at t2 t3
     rw [← hD] at t2
     rw [← hM] at t3
     rw [accE_ok FE, ← hA] at t4
     rw [accE_ok GE, hacc, ← hA] at t5
     simp only [accV, accC] at t4 t5
     have hml : D.length = M.length := by rw [hD, hM, HY.out, HQS.out]; exact (nam_len HNAM.out HFC.out FV.out).symm
     have h64 : D.length ≤ 64 := by rw [hD]; exact divP_le FV.out
     have hpe : ∀ j, (h : j < D.length) → OkS c D[j].1 ∧ penceF M (namS c.kd σ D[j].1) = D[j].2 := by
      intro j h
      have hm : D[j] ∈ divP c (finsOf ps) := by rw [← hD]; exact List.getElem_mem h
      unfold divP at hm
      obtain ⟨s, hs, he⟩ := List.mem_map.1 hm
      have hw : s ∈ winsP c (finsOf ps) := by unfold backedL at hs; exact (List.mem_filter.1 hs).1
      rw [← he, hM, HY.out, HQS.out]
      exact ⟨wins_okS FV.out hw, nam_penceF HNAM.out HFC.out FV.out hs⟩
     have HPE := Lib.hid hpe
     have HML := Lib.hid hml
     have T2 := Lib.hid t2
     have T3 := Lib.hid t3
     have T4 := Lib.hid t4
     have T5 := Lib.hid t5
     have qN := fun W => neq_acc W A A
     simp only [decide_eq_true (rfl : A = A), Bool.not_true] at qN
     clear t2 t3 t4 t5 hacc hD hM hA hpe hml FE GE
     go_wp2_with fail
     refine callWR (W0 := Z) (g := ⟨Z, Below.refl _ _⟩) xx (T2.out _ (HCS.out.ext xx) (HF.out.ext xx)) (fun _ _ h => h.1) fun _ g3 hgr hr => ?_
     obtain ⟨-, u, rfl, hU⟩ := hr
     clear hgr
     obtain ⟨da, dc, rfl, hu1, hu2, -⟩ := dvd_cells hU
     have HD := Lib.hid hU
     clear hU

     go_wp2_with fail
     refine callWR (W0 := Z) (g := g3) xx (T3.out _ (HYB.out.ext xx) (HG.out.ext xx)) (fun _ _ h => h.1) fun _ g4 hgr hr => ?_
     obtain ⟨-, u, rfl, hU⟩ := hr
     replace HD := Lib.hid (HD.out.ext hgr)
     clear hgr
     obtain ⟨ma, mc, rfl, hv1, hv2, -⟩ := dvd_cells hU
     rw [← HML.out] at hU ⊢
     have HM := Lib.hid hU
     clear hU

     go_wp2_with fail
     refine callW (W0 := Z) (g := g4) xx (T4.out _ (HCS.out.ext xx) (HF.out.ext xx)) fun g5 hgr => ?_
     replace HD := Lib.hid (HD.out.ext hgr)
     replace HM := Lib.hid (HM.out.ext hgr)
     clear hgr
     go_upto_region 19 with (fail)
     obtain ⟨R1, hR1⟩ : ∃ zz9, zz9 = (grow Z g5).alloc (.cells #[.int .i64 A.i, .int .i64 A.k, .int .i64 A.d, .int .i64 A.p, .int .i64 A.q, .int .i64 A.o] 48) := ⟨_, rfl⟩
     have a0 : R1.cell? ⟨(grow Z g5).heap.size, 0, none⟩ = some (.int .i64 A.i) := by rw [hR1]; simp [go_sem]
     have a1 : R1.cell? ⟨(grow Z g5).heap.size, 1, none⟩ = some (.int .i64 A.k) := by rw [hR1]; simp [go_sem]
     have a2 : R1.cell? ⟨(grow Z g5).heap.size, 2, none⟩ = some (.int .i64 A.d) := by rw [hR1]; simp [go_sem]
     have a3 : R1.cell? ⟨(grow Z g5).heap.size, 3, none⟩ = some (.int .i64 A.p) := by rw [hR1]; simp [go_sem]
     have a4 : R1.cell? ⟨(grow Z g5).heap.size, 4, none⟩ = some (.int .i64 A.q) := by rw [hR1]; simp [go_sem]
     have a5 : R1.cell? ⟨(grow Z g5).heap.size, 5, none⟩ = some (.int .i64 A.o) := by rw [hR1]; simp [go_sem]
     have eR1 : Ext Z R1 := by rw [hR1]; exact xx
     have eR1c : Ext (grow Z g5) R1 := by rw [hR1]; exact xx
     replace c0 := cell_ext eR1 c0
     replace c1 := cell_ext eR1 c1
     replace c2 := cell_ext eR1 c2
     replace c3 := cell_ext eR1 c3
     replace c4 := cell_ext eR1 c4
     replace c5 := cell_ext eR1 c5
     replace c6 := cell_ext eR1 c6
     replace c7 := cell_ext eR1 c7
     replace p0 := cell_ext eR1 p0
     replace p1 := cell_ext eR1 p1
     replace p2 := cell_ext eR1 p2
     replace p3 := cell_ext eR1 p3
     replace p4 := cell_ext eR1 p4
     replace p5 := cell_ext eR1 p5
     replace p6 := cell_ext eR1 p6
     replace p7 := cell_ext eR1 p7
     replace HCS := Lib.hid (HCS.out.ext eR1)
     replace HNS := Lib.hid (HNS.out.ext eR1)
     replace HSG := Lib.hid (HSG.out.ext eR1)
     replace HF := Lib.hid (HF.out.ext eR1)
     replace HYB := Lib.hid (HYB.out.ext eR1)
     replace HG := Lib.hid (HG.out.ext eR1)
     replace HD := Lib.hid (HD.out.ext eR1c)
     replace HM := Lib.hid (HM.out.ext eR1c)
     replace HWS := Lib.hid (HWS.out.trans' eR1)
     rw [← hR1]
     obtain ⟨qa, hqa⟩ : ∃ b, b = (grow Z g5).heap.size := ⟨_, rfl⟩
     rw [← hqa] at a0 a1 a2 a3 a4 a5 ⊢
     replace zs := World.block_lt_of_cell? _ _ c0
     replace zqy := World.block_lt_of_cell? _ _ p0
     have zqa := World.block_lt_of_cell? _ _ a0
     simp only at zqa
     clear hR1 eR1 eR1c hqa
     go_wp2_with fail
     refine callW (W0 := R1) (g := ⟨R1, Below.refl _ _⟩) xx (T5.out _ (HYB.out.ext xx) (HG.out.ext xx)) fun g6 hgr => ?_
     clear hgr
     go_upto_region 20 with (fail)
     obtain ⟨R2, hR2⟩ : ∃ zz9, zz9 = (grow R1 g6).alloc (.cells #[.int .i64 A.i, .int .i64 A.k, .int .i64 A.d, .int .i64 A.p, .int .i64 A.q, .int .i64 A.o] 48) := ⟨_, rfl⟩
     have e0 : R2.cell? ⟨(grow R1 g6).heap.size, 0, none⟩ = some (.int .i64 A.i) := by rw [hR2]; simp [go_sem]
     have e1 : R2.cell? ⟨(grow R1 g6).heap.size, 1, none⟩ = some (.int .i64 A.k) := by rw [hR2]; simp [go_sem]
     have e2 : R2.cell? ⟨(grow R1 g6).heap.size, 2, none⟩ = some (.int .i64 A.d) := by rw [hR2]; simp [go_sem]
     have e3 : R2.cell? ⟨(grow R1 g6).heap.size, 3, none⟩ = some (.int .i64 A.p) := by rw [hR2]; simp [go_sem]
     have e4 : R2.cell? ⟨(grow R1 g6).heap.size, 4, none⟩ = some (.int .i64 A.q) := by rw [hR2]; simp [go_sem]
     have e5 : R2.cell? ⟨(grow R1 g6).heap.size, 5, none⟩ = some (.int .i64 A.o) := by rw [hR2]; simp [go_sem]
     have eR2 : Ext R1 R2 := by rw [hR2]; exact xx
     replace c0 := cell_ext eR2 c0
     replace c1 := cell_ext eR2 c1
     replace c2 := cell_ext eR2 c2
     replace c3 := cell_ext eR2 c3
     replace c4 := cell_ext eR2 c4
     replace c5 := cell_ext eR2 c5
     replace c6 := cell_ext eR2 c6
     replace c7 := cell_ext eR2 c7
     replace p0 := cell_ext eR2 p0
     replace p1 := cell_ext eR2 p1
     replace p2 := cell_ext eR2 p2
     replace p3 := cell_ext eR2 p3
     replace p4 := cell_ext eR2 p4
     replace p5 := cell_ext eR2 p5
     replace p6 := cell_ext eR2 p6
     replace p7 := cell_ext eR2 p7
     replace a0 := cell_ext eR2 a0
     replace a1 := cell_ext eR2 a1
     replace a2 := cell_ext eR2 a2
     replace a3 := cell_ext eR2 a3
     replace a4 := cell_ext eR2 a4
     replace a5 := cell_ext eR2 a5
     replace HCS := Lib.hid (HCS.out.ext eR2)
     replace HNS := Lib.hid (HNS.out.ext eR2)
     replace HSG := Lib.hid (HSG.out.ext eR2)
     replace HF := Lib.hid (HF.out.ext eR2)
     replace HYB := Lib.hid (HYB.out.ext eR2)
     replace HG := Lib.hid (HG.out.ext eR2)
     replace HD := Lib.hid (HD.out.ext eR2)
     replace HM := Lib.hid (HM.out.ext eR2)
     replace HWS := Lib.hid (HWS.out.trans' eR2)
     rw [← hR2]
     obtain ⟨qb, hqb⟩ : ∃ b, b = (grow R1 g6).heap.size := ⟨_, rfl⟩
     rw [← hqb] at e0 e1 e2 e3 e4 e5 ⊢
     replace zs := World.block_lt_of_cell? _ _ c0
     replace zqy := World.block_lt_of_cell? _ _ p0
     replace zqa := World.block_lt_of_cell? _ _ a0
     have zqb := World.block_lt_of_cell? _ _ e0
     simp only at zqb
     clear hR2 eR2 hqb
     have C0 := Lib.hid c0
     have C1 := Lib.hid c1
     clear c0 c1 c2 c3 c4 c5 c6 c7 p0 p1 p2 p3 p4 p5 p6 p7 HYB HG HCS HF HNS
     go_wp2_with fail
     clear a0 a1 a2 a3 a4 a5 e0 e1 e2 e3 e4 e5 zqa zqb zqy zs
     go_loopw [23] (fun iv W => ∃ j : Nat, j ≤ D.length ∧ iv = .int .i64 j ∧ Ext R2 W) (fun iv _ => D.length - (intOf iv).toNat)
     case atStart => exact ⟨0, by omega, rfl, Below.refl _ _⟩
     case round =>
      obtain ⟨j, hj, rfl, hE⟩ := hrel
      have HE := Lib.hid hE
      by_cases hlt : j < D.length
      ·have hji : (j : Int) < (D.length : Int) := by omega
       obtain ⟨_, _, e9, -, -, hcc⟩ := dvd_cells HD.out
       cases e9
       obtain ⟨db, dof, hs9, hcd⟩ := hcc j hlt
       subst hs9
       obtain ⟨m0, m1, m2, hzm⟩ := hcd wr hE
       obtain ⟨hok, hpf⟩ := HPE.out j hlt
       obtain ⟨z, hz⟩ : ∃ z, z = D[j] := ⟨_, rfl⟩
       rw [← hz] at m0 m1 m2 hok hpf
       obtain ⟨⟨s1, s2⟩, d⟩ := z
       simp only at m0 m1 m2 hok hpf
       obtain ⟨o1, o2, o3⟩ := hok
       simp only at o1 o2 o3
       have hs2 : -1 ≤ s2 ∧ s2 < c.n := by
        cases hsg : single c
        ·have := o3 hsg; omega
        ·have := o2 hsg; omega
       have i0 := cell_ext hE C0.out
       have i1 := cell_ext hE C1.out
       have iz := World.block_lt_of_cell? _ _ i1
       simp only at iz
       obtain ⟨k1, rfl⟩ : ∃ k1 : Nat, s1 = (k1 : Int) := ⟨s1.toNat, by omega⟩
       have x1 : ¬ (k1 : Int) < 0 := by omega
       have x2 : ¬ c.n ≤ (k1 : Int) := by omega
       have x3 : ¬ s2 < -1 := by omega
       have x4 : ¬ c.n ≤ s2 := by omega
       have HPF := Lib.hid hpf
       have HO2 := Lib.hid o2
       have HO3 := Lib.hid o3
       clear hz hcc hcd hE hpf o2 o3
       go_upto_region 25 with (fail)
       refine wp_region_roveG (wr.heap.size) (Nat.le_refl _)
        [sqV (.slice (some ⟨db, dof, none⟩) D.length dc), sqV (.int .i64 j), sqV (.pointer (some ⟨db, dof + j * 3, none⟩)), sqV (.pointer (some ⟨db, dof + j * 3, none⟩)), sqV (.int .i64 k1), sqV (.bool false), sqV (.bool false), sqV (.slice (some ⟨db, dof, none⟩) D.length dc), sqV (.int .i64 j), sqV (.pointer (some ⟨db, dof + j * 3, none⟩)), sqV (.pointer (some ⟨db, dof + j * 3, none⟩)), sqV (.int .i64 k1), sqV (.pointer (some ⟨w.heap.size, 1, none⟩)), sqV (.int .i64 c.n), sqV (.bool false), sqV (.bool false), sqV (.bool false), sqV (.slice (some ⟨db, dof, none⟩) D.length dc), sqV (.int .i64 j), sqV (.pointer (some ⟨db, dof + j * 3, none⟩)), sqV (.pointer (some ⟨db, dof + j * 3 + 1, none⟩)), sqV (.int .i64 s2), sqV (.bool false), sqV (.bool false), sqV (.bool false), sqV (.slice (some ⟨db, dof, none⟩) D.length dc), sqV (.int .i64 j), sqV (.pointer (some ⟨db, dof + j * 3, none⟩)), sqV (.pointer (some ⟨db, dof + j * 3 + 1, none⟩)), sqV (.int .i64 s2), sqV (.pointer (some ⟨w.heap.size, 1, none⟩)), sqV (.int .i64 c.n), sqV (.bool false), sqV (.bool false)]
        [true, true, true, true, true, true, true, true, true, true, true, true, true, true, true, true, true, true, true, true, true, true, true, true, true, true, true, true, true, true, true, true, true, true] [false, false, false, false, false, false, false, false, false, false, false, false, false, false, false, false, false, false, false, false, false, false, false, false, false, false, false, false, false, false, false, false, false, false] [true, true, true, true, true, true, true, true, true, true, true, true, true, true, true, true, true, true, true, true, true, true, true, true, true, true, true, true, true, true, true, true, true, true] [true, true, true, true, true, true, true, true, true, true, true, true, true, true, true, true, true, true, true, true, true, true, true, true, true, true, true, true, true, true, true, true, true, true] [true, true, true, true, true, true, true, true, true, true, true, true, true, true, true, true, true, true, true, true, true, true, true, true, true, true, true, true, true, true, true, true, true, true] [none, none, none, none, none, some false, some false, none, none, none, none, none, none, none, some false, some false, some false, none, none, none, none, none, some false, some false, some false, none, none, none, none, none, none, none, some false, some false]
        (by kernel_rfl) (by kernel_rfl) (by decide +kernel) ⟨fun _ _ _ h => h, ⟨fun _ _ _ h => h, ⟨fun _ _ _ h => h, ⟨fun _ _ _ h => h, ⟨fun _ _ _ h => h, ⟨fun _ _ _ h => h, ⟨fun _ _ _ h => h, ⟨fun _ _ _ h => h, ⟨fun _ _ _ h => h, ⟨fun _ _ _ h => h, trivial⟩⟩⟩⟩⟩⟩⟩⟩⟩⟩ (by decide +kernel) (by decide +kernel) (by decide +kernel) rfl ⟨rfl, rfl, rfl⟩ ⟨?s0, ?s1, ?s2, ?s3, ?s4, ?s5, ?s6, ?s7, ?s8, ?s9, ?s10, ?s11, ?s12, ?s13, ?s14, ?s15, ?s16, ?s17, ?s18, ?s19, ?s20, ?s21, ?s22, ?s23, ?s24, ?s25, ?s26, ?s27, ?s28, ?s29, ?s30, ?s31, ?s32, ?s33, trivial⟩ [some 149, some 150, some 151, some 152, some 153, some 154, some 155, some 156, some 157, some 158, some 159, some 160, some 161, some 162, some 163, some 164, some 165, some 166, some 167, some 168, some 169, some 170, some 171, some 172, some 173, some 174, some 175, some 176, some 177, some 178, some 179, some 180, some 181, some 182] rfl rfl ?send
       case s0 =>
        intro val ρ W hE hz hd hu hA hx
        have o0 : ρ (.tmp 15) = .slice (some ⟨db, dof, none⟩) D.length dc := hA.old 15 (by decide)
        clear hd hu
        exact runq_val (W' := W) (by simp [execOp, o0, go_sem]) (Below.refl _ _) rfl
       case s1 =>
        intro val ρ W hE hz hd hu hA hx
        have o0 : ρ (.tmp 23) = .int .i64 j := hA.old 23 (by decide)
        clear hd hu
        exact runq_val (W' := W) (by simp [execOp, o0, go_sem]) (Below.refl _ _) rfl
       case s2 =>
        intro val ρ W hE hz hd hu hA hx
        have d0 : ρ (.tmp 149) = .slice (some ⟨db, dof, none⟩) D.length dc := (hA.dep 0 (by decide) 149 rfl).trans (hd 0 (by decide))
        have d1 : ρ (.tmp 150) = .int .i64 j := (hA.dep 1 (by decide) 150 rfl).trans (hd 1 (by decide))
        clear hd hu
        exact runq_val (W' := W) (by simp [execOp, d0, d1, hji, go_sem]) (Below.refl _ _) rfl
       case s3 =>
        intro val ρ W hE hz hd hu hA hx
        have d2 : ρ (.tmp 151) = .pointer (some ⟨db, dof + j * 3, none⟩) := (hA.dep 2 (by decide) 151 rfl).trans (hd 2 (by decide))
        clear hd hu
        exact runq_val (W' := W) (by simp [execOp, d2, go_sem]) (Below.refl _ _) rfl
       case s4 =>
        intro val ρ W hE hz hd hu hA hx
        have d3 : ρ (.tmp 152) = .pointer (some ⟨db, dof + j * 3, none⟩) := (hA.dep 3 (by decide) 152 rfl).trans (hd 3 (by decide))
        have f_m0 := cell_below hE (by simp only; omega) m0
        clear hd hu
        exact runq_val (W' := W) (by simp [execOp, d3, f_m0, go_sem]) (Below.refl _ _) rfl
       case s5 =>
        intro val ρ W hE hz hd hu hA hx
        have d4 : ρ (.tmp 153) = .int .i64 k1 := (hA.dep 4 (by decide) 153 rfl).trans (hd 4 (by decide))
        clear hd hu
        exact runq_val (W' := W) (by simp [execOp, hA.const, d4, x1, go_sem]) (Below.refl _ _) rfl
       case s6 =>
        intro val ρ W hE hz hd hu hA hx
        have d5 : ρ (.tmp 154) = .bool false := (hA.dep 5 (by decide) 154 rfl).trans (hd 5 (by decide))
        clear hd hu
        exact runq_val (W' := W) (by simp [execOp, d5, go_sem]) (Below.refl _ _) rfl
       case s7 =>
        intro val ρ W hE hz hd hu hA hx
        have o0 : ρ (.tmp 15) = .slice (some ⟨db, dof, none⟩) D.length dc := hA.old 15 (by decide)
        clear hd hu
        exact runq_val (W' := W) (by simp [execOp, o0, go_sem]) (Below.refl _ _) rfl
       case s8 =>
        intro val ρ W hE hz hd hu hA hx
        have o0 : ρ (.tmp 23) = .int .i64 j := hA.old 23 (by decide)
        clear hd hu
        exact runq_val (W' := W) (by simp [execOp, o0, go_sem]) (Below.refl _ _) rfl
       case s9 =>
        intro val ρ W hE hz hd hu hA hx
        have d7 : ρ (.tmp 156) = .slice (some ⟨db, dof, none⟩) D.length dc := (hA.dep 7 (by decide) 156 rfl).trans (hd 7 (by decide))
        have d8 : ρ (.tmp 157) = .int .i64 j := (hA.dep 8 (by decide) 157 rfl).trans (hd 8 (by decide))
        clear hd hu
        exact runq_val (W' := W) (by simp [execOp, d7, d8, hji, go_sem]) (Below.refl _ _) rfl
       case s10 =>
        intro val ρ W hE hz hd hu hA hx
        have d9 : ρ (.tmp 158) = .pointer (some ⟨db, dof + j * 3, none⟩) := (hA.dep 9 (by decide) 158 rfl).trans (hd 9 (by decide))
        clear hd hu
        exact runq_val (W' := W) (by simp [execOp, d9, go_sem]) (Below.refl _ _) rfl
       case s11 =>
        intro val ρ W hE hz hd hu hA hx
        have d10 : ρ (.tmp 159) = .pointer (some ⟨db, dof + j * 3, none⟩) := (hA.dep 10 (by decide) 159 rfl).trans (hd 10 (by decide))
        have f_m0 := cell_below hE (by simp only; omega) m0
        clear hd hu
        exact runq_val (W' := W) (by simp [execOp, d10, f_m0, go_sem]) (Below.refl _ _) rfl
       case s12 =>
        intro val ρ W hE hz hd hu hA hx
        have o0 : ρ (.tmp 3) = .pointer (some ⟨w.heap.size, 0, none⟩) := hA.old 3 (by decide)
        clear hd hu
        exact runq_val (W' := W) (by simp [execOp, o0, go_sem]) (Below.refl _ _) rfl
       case s13 =>
        intro val ρ W hE hz hd hu hA hx
        have d12 : ρ (.tmp 161) = .pointer (some ⟨w.heap.size, 1, none⟩) := (hA.dep 12 (by decide) 161 rfl).trans (hd 12 (by decide))
        have f_i1 := cell_below hE (by simp only; omega) i1
        clear hd hu
        exact runq_val (W' := W) (by simp [execOp, d12, f_i1, go_sem]) (Below.refl _ _) rfl
       case s14 =>
        intro val ρ W hE hz hd hu hA hx
        have d11 : ρ (.tmp 160) = .int .i64 k1 := (hA.dep 11 (by decide) 160 rfl).trans (hd 11 (by decide))
        have d13 : ρ (.tmp 162) = .int .i64 c.n := (hA.dep 13 (by decide) 162 rfl).trans (hd 13 (by decide))
        clear hd hu
        exact runq_val (W' := W) (by simp [execOp, d11, d13, x2, go_sem]) (Below.refl _ _) rfl
       case s15 =>
        intro val ρ W hE hz hd hu hA hx
        have d6 : ρ (.tmp 155) = .bool false := (hA.dep 6 (by decide) 155 rfl).trans (hd 6 (by decide))
        have d14 : ρ (.tmp 163) = .bool false := (hA.dep 14 (by decide) 163 rfl).trans (hd 14 (by decide))
        clear hd hu
        exact runq_val (W' := W) (by simp [execOp, hA.const, d6, d14, go_sem]) (Below.refl _ _) rfl
       case s16 =>
        intro val ρ W hE hz hd hu hA hx
        have d15 : ρ (.tmp 164) = .bool false := (hA.dep 15 (by decide) 164 rfl).trans (hd 15 (by decide))
        clear hd hu
        exact runq_val (W' := W) (by simp [execOp, d15, go_sem]) (Below.refl _ _) rfl
       case s17 =>
        intro val ρ W hE hz hd hu hA hx
        have o0 : ρ (.tmp 15) = .slice (some ⟨db, dof, none⟩) D.length dc := hA.old 15 (by decide)
        clear hd hu
        exact runq_val (W' := W) (by simp [execOp, o0, go_sem]) (Below.refl _ _) rfl
       case s18 =>
        intro val ρ W hE hz hd hu hA hx
        have o0 : ρ (.tmp 23) = .int .i64 j := hA.old 23 (by decide)
        clear hd hu
        exact runq_val (W' := W) (by simp [execOp, o0, go_sem]) (Below.refl _ _) rfl
       case s19 =>
        intro val ρ W hE hz hd hu hA hx
        have d17 : ρ (.tmp 166) = .slice (some ⟨db, dof, none⟩) D.length dc := (hA.dep 17 (by decide) 166 rfl).trans (hd 17 (by decide))
        have d18 : ρ (.tmp 167) = .int .i64 j := (hA.dep 18 (by decide) 167 rfl).trans (hd 18 (by decide))
        clear hd hu
        exact runq_val (W' := W) (by simp [execOp, d17, d18, hji, go_sem]) (Below.refl _ _) rfl
       case s20 =>
        intro val ρ W hE hz hd hu hA hx
        have d19 : ρ (.tmp 168) = .pointer (some ⟨db, dof + j * 3, none⟩) := (hA.dep 19 (by decide) 168 rfl).trans (hd 19 (by decide))
        clear hd hu
        exact runq_val (W' := W) (by simp [execOp, d19, go_sem]) (Below.refl _ _) rfl
       case s21 =>
        intro val ρ W hE hz hd hu hA hx
        have d20 : ρ (.tmp 169) = .pointer (some ⟨db, dof + j * 3 + 1, none⟩) := (hA.dep 20 (by decide) 169 rfl).trans (hd 20 (by decide))
        have f_m1 := cell_below hE (by simp only; omega) m1
        clear hd hu
        exact runq_val (W' := W) (by simp [execOp, d20, f_m1, go_sem]) (Below.refl _ _) rfl
       case s22 =>
        intro val ρ W hE hz hd hu hA hx
        have d21 : ρ (.tmp 170) = .int .i64 s2 := (hA.dep 21 (by decide) 170 rfl).trans (hd 21 (by decide))
        clear hd hu
        exact runq_val (W' := W) (by simp [execOp, hA.const, d21, x3, go_sem]) (Below.refl _ _) rfl
       case s23 =>
        intro val ρ W hE hz hd hu hA hx
        have d16 : ρ (.tmp 165) = .bool false := (hA.dep 16 (by decide) 165 rfl).trans (hd 16 (by decide))
        have d22 : ρ (.tmp 171) = .bool false := (hA.dep 22 (by decide) 171 rfl).trans (hd 22 (by decide))
        clear hd hu
        exact runq_val (W' := W) (by simp [execOp, hA.const, d16, d22, go_sem]) (Below.refl _ _) rfl
       case s24 =>
        intro val ρ W hE hz hd hu hA hx
        have d23 : ρ (.tmp 172) = .bool false := (hA.dep 23 (by decide) 172 rfl).trans (hd 23 (by decide))
        clear hd hu
        exact runq_val (W' := W) (by simp [execOp, d23, go_sem]) (Below.refl _ _) rfl
       case s25 =>
        intro val ρ W hE hz hd hu hA hx
        have o0 : ρ (.tmp 15) = .slice (some ⟨db, dof, none⟩) D.length dc := hA.old 15 (by decide)
        clear hd hu
        exact runq_val (W' := W) (by simp [execOp, o0, go_sem]) (Below.refl _ _) rfl
       case s26 =>
        intro val ρ W hE hz hd hu hA hx
        have o0 : ρ (.tmp 23) = .int .i64 j := hA.old 23 (by decide)
        clear hd hu
        exact runq_val (W' := W) (by simp [execOp, o0, go_sem]) (Below.refl _ _) rfl
       case s27 =>
        intro val ρ W hE hz hd hu hA hx
        have d25 : ρ (.tmp 174) = .slice (some ⟨db, dof, none⟩) D.length dc := (hA.dep 25 (by decide) 174 rfl).trans (hd 25 (by decide))
        have d26 : ρ (.tmp 175) = .int .i64 j := (hA.dep 26 (by decide) 175 rfl).trans (hd 26 (by decide))
        clear hd hu
        exact runq_val (W' := W) (by simp [execOp, d25, d26, hji, go_sem]) (Below.refl _ _) rfl
       case s28 =>
        intro val ρ W hE hz hd hu hA hx
        have d27 : ρ (.tmp 176) = .pointer (some ⟨db, dof + j * 3, none⟩) := (hA.dep 27 (by decide) 176 rfl).trans (hd 27 (by decide))
        clear hd hu
        exact runq_val (W' := W) (by simp [execOp, d27, go_sem]) (Below.refl _ _) rfl
       case s29 =>
        intro val ρ W hE hz hd hu hA hx
        have d28 : ρ (.tmp 177) = .pointer (some ⟨db, dof + j * 3 + 1, none⟩) := (hA.dep 28 (by decide) 177 rfl).trans (hd 28 (by decide))
        have f_m1 := cell_below hE (by simp only; omega) m1
        clear hd hu
        exact runq_val (W' := W) (by simp [execOp, d28, f_m1, go_sem]) (Below.refl _ _) rfl
       case s30 =>
        intro val ρ W hE hz hd hu hA hx
        have o0 : ρ (.tmp 3) = .pointer (some ⟨w.heap.size, 0, none⟩) := hA.old 3 (by decide)
        clear hd hu
        exact runq_val (W' := W) (by simp [execOp, o0, go_sem]) (Below.refl _ _) rfl
       case s31 =>
        intro val ρ W hE hz hd hu hA hx
        have d30 : ρ (.tmp 179) = .pointer (some ⟨w.heap.size, 1, none⟩) := (hA.dep 30 (by decide) 179 rfl).trans (hd 30 (by decide))
        have f_i1 := cell_below hE (by simp only; omega) i1
        clear hd hu
        exact runq_val (W' := W) (by simp [execOp, d30, f_i1, go_sem]) (Below.refl _ _) rfl
       case s32 =>
        intro val ρ W hE hz hd hu hA hx
        have d29 : ρ (.tmp 178) = .int .i64 s2 := (hA.dep 29 (by decide) 178 rfl).trans (hd 29 (by decide))
        have d31 : ρ (.tmp 180) = .int .i64 c.n := (hA.dep 31 (by decide) 180 rfl).trans (hd 31 (by decide))
        clear hd hu
        exact runq_val (W' := W) (by simp [execOp, d29, d31, x4, go_sem]) (Below.refl _ _) rfl
       case s33 =>
        intro val ρ W hE hz hd hu hA hx
        have d24 : ρ (.tmp 173) = .bool false := (hA.dep 24 (by decide) 173 rfl).trans (hd 24 (by decide))
        have d32 : ρ (.tmp 181) = .bool false := (hA.dep 32 (by decide) 181 rfl).trans (hd 32 (by decide))
        clear hd hu
        exact runq_val (W' := W) (by simp [execOp, hA.const, d24, d32, go_sem]) (Below.refl _ _) rfl
       case send =>
        intro val WW hE hzz hv
        obtain ⟨-, -, -, -, -, -, -, -, -, -, -, -, -, -, -, -, -, -, -, -, -, -, -, -, -, -, -, -, -, -, -, -, -, r33, -⟩ := hv
        have q33 : val 33 = .bool false := r33
        simp only [putD, q33]
        go_frame
        have HE2 := Lib.hid (HE.out.trans' hE)
        replace m0 := cell_ext hE m0
        replace m1 := cell_ext hE m1
        replace m2 := cell_ext hE m2
        replace i0 := cell_ext hE i0
        replace i1 := cell_ext hE i1
        replace iz := World.block_lt_of_cell? _ _ i1
        replace hzm := World.block_lt_of_cell? _ _ m0
        simp only at iz hzm
        have hsl := HNAM.out.len
        have hNc := HNC.out
        have hk1 : k1 < σ.length := by omega
        have hk1i : (k1 : Int) < (N : Int) := by omega
        obtain ⟨_, _, e9, hcl⟩ := ints_cell HSG.out hk1
        cases e9
        obtain ⟨n0, hzn⟩ := hcl WW HE2.out
        rw [Nat.zero_add] at n0
        obtain ⟨p, hp⟩ : ∃ p, p = gt σ k1 := ⟨_, rfl⟩
        rw [← hp] at n0
        have HPP : Hid (nm σ (k1 : Int) = p) := Lib.hid (by rw [hp]; rfl)
        clear hE hzz q33 x1 x2 x3 x4 hcl hp hNc
        by_cases hs0 : 0 ≤ s2
        ·obtain ⟨k2, rfl⟩ : ∃ k2 : Nat, s2 = (k2 : Int) := ⟨s2.toNat, by omega⟩
         have hNc := HNC.out
         have hk2 : k2 < σ.length := by omega
         have hk2i : (k2 : Int) < (N : Int) := by omega
         obtain ⟨_, _, e9, hcl⟩ := ints_cell HSG.out hk2
         cases e9
         obtain ⟨n1, -⟩ := hcl WW HE2.out
         rw [Nat.zero_add] at n1
         obtain ⟨q, hq⟩ : ∃ q, q = gt σ k2 := ⟨_, rfl⟩
         rw [← hq] at n1
         have HQQ : Hid (nm σ (k2 : Int) = q) := Lib.hid (by rw [hq]; rfl)
         have hs00 : (0 : Int) ≤ (k2 : Int) := by omega
         clear hcl hq hNc hs0
         by_cases k3 : c.kd = 3
         ·have f3 : (c.kd == 3) = true := by rw [beq_iff_eq]; exact k3
          by_cases hqp : q < p
          ·have HNS : Hid (namS c.kd σ ((k1 : Int), (k2 : Int)) = (q, p)) := Lib.hid (by
            unfold namS
            simp only
            rw [if_pos hs00, HPP.out, HQQ.out, if_pos ⟨k3, hqp⟩])
           clear k3
           have t9 := fun w h => penceL_any M q p (.slice ma D.length mc) w h
           rw [show penceF M (q, p) = d by rw [← HNS.out]; exact HPF.out] at t9
           have T9 := Lib.hid t9
           clear t9
           go_upto_region 32 with (fail)
           refine wp_region_rove (WW.heap.size) (Nat.le_refl _)
            [sqV (.slice ma D.length mc), sqV (.int .i64 q), sqV (.int .i64 p), sqV (.int .i64 d), sqV (.slice (some ⟨db, dof, none⟩) D.length dc), sqV (.int .i64 j), sqV (.pointer (some ⟨db, dof + j * 3, none⟩)), sqV (.pointer (some ⟨db, dof + j * 3 + 2, none⟩)), sqV (.int .i64 d), sqV (.bool false)]
            [true, true, true, true, true, true, true, true, true, true] [false, false, false, false, false, false, false, false, false, false] [true, true, true, true, true, true, true, true, true, true] [true, true, true, true, true, true, true, true, true, true]
            (by kernel_rfl) (by kernel_rfl) (by decide +kernel) (by decide +kernel) (by decide +kernel) rfl ⟨rfl, rfl⟩ ⟨?s0, ?s1, ?s2, ?s3, ?s4, ?s5, ?s6, ?s7, ?s8, ?s9, trivial⟩ [some 215, some 216, some 217, some 218, some 219, some 220, some 221, some 222, some 223, some 224] rfl rfl ?send
           case s0 =>
            intro val ρ W hE hz hd hA hx
            have o0 : ρ (.tmp 17) = .slice ma D.length mc := hA.old 17 (by decide)
            clear hd
            exact runq_val (W' := W) (by simp [execOp, o0, go_sem]) (Below.refl _ _) rfl
           case s1 =>
            intro val ρ W hE hz hd hA hx
            have o0 : ρ (.tmp 24) = .int .i64 q := hA.old 24 (by decide)
            clear hd
            exact runq_val (W' := W) (by simp [execOp, o0, go_sem]) (Below.refl _ _) rfl
           case s2 =>
            intro val ρ W hE hz hd hA hx
            have o0 : ρ (.tmp 25) = .int .i64 p := hA.old 25 (by decide)
            clear hd
            exact runq_val (W' := W) (by simp [execOp, o0, go_sem]) (Below.refl _ _) rfl
           case s3 =>
            intro val ρ W hE hz hd hA hx
            have d0 : ρ (.tmp 215) = .slice ma D.length mc := (hA.dep 0 (by decide) 215 rfl).trans (hd 0 (by decide))
            have d1 : ρ (.tmp 216) = .int .i64 q := (hA.dep 1 (by decide) 216 rfl).trans (hd 1 (by decide))
            have d2 : ρ (.tmp 217) = .int .i64 p := (hA.dep 2 (by decide) 217 rfl).trans (hd 2 (by decide))
            clear hd
            refine runq_call 48 _ _ rfl #[.slice ma D.length mc, .int .i64 q, .int .i64 p] (hA.func _) (by simp [d0, d1, d2]) (fun args W => Try.call48 args W) ((T9.out W (HM.out.ext (HE2.out.trans' hE))).mono ?_)
            rintro e w' ⟨rfl, hb⟩
            exact ⟨_, rfl, hb, rfl⟩
           case s4 =>
            intro val ρ W hE hz hd hA hx
            have o0 : ρ (.tmp 15) = .slice (some ⟨db, dof, none⟩) D.length dc := hA.old 15 (by decide)
            clear hd
            exact runq_val (W' := W) (by simp [execOp, o0, go_sem]) (Below.refl _ _) rfl
           case s5 =>
            intro val ρ W hE hz hd hA hx
            have o0 : ρ (.tmp 23) = .int .i64 j := hA.old 23 (by decide)
            clear hd
            exact runq_val (W' := W) (by simp [execOp, o0, go_sem]) (Below.refl _ _) rfl
           case s6 =>
            intro val ρ W hE hz hd hA hx
            have d4 : ρ (.tmp 219) = .slice (some ⟨db, dof, none⟩) D.length dc := (hA.dep 4 (by decide) 219 rfl).trans (hd 4 (by decide))
            have d5 : ρ (.tmp 220) = .int .i64 j := (hA.dep 5 (by decide) 220 rfl).trans (hd 5 (by decide))
            clear hd
            exact runq_val (W' := W) (by simp [execOp, d4, d5, hji, go_sem]) (Below.refl _ _) rfl
           case s7 =>
            intro val ρ W hE hz hd hA hx
            have d6 : ρ (.tmp 221) = .pointer (some ⟨db, dof + j * 3, none⟩) := (hA.dep 6 (by decide) 221 rfl).trans (hd 6 (by decide))
            clear hd
            exact runq_val (W' := W) (by simp [execOp, d6, go_sem]) (Below.refl _ _) rfl
           case s8 =>
            intro val ρ W hE hz hd hA hx
            have d7 : ρ (.tmp 222) = .pointer (some ⟨db, dof + j * 3 + 2, none⟩) := (hA.dep 7 (by decide) 222 rfl).trans (hd 7 (by decide))
            have f_m2 := cell_below hE (by simp only; omega) m2
            clear hd
            exact runq_val (W' := W) (by simp [execOp, d7, f_m2, go_sem]) (Below.refl _ _) rfl
           case s9 =>
            intro val ρ W hE hz hd hA hx
            have d3 : ρ (.tmp 218) = .int .i64 d := (hA.dep 3 (by decide) 218 rfl).trans (hd 3 (by decide))
            have d8 : ρ (.tmp 223) = .int .i64 d := (hA.dep 8 (by decide) 223 rfl).trans (hd 8 (by decide))
            clear hd
            exact runq_val (W' := W) (by simp [execOp, d3, d8, go_sem]) (Below.refl _ _) rfl
           case send =>
            intro val WZ hE hzz hv
            obtain ⟨-, -, -, -, -, -, -, -, -, r9, -⟩ := hv
            have q9 : val 9 = .bool false := r9
            simp only [putD, q9]
            go_frame
            have HE3 := Lib.hid (HE2.out.trans' hE)
            clear hE hzz q9 m0 m1 m2 hzm i0 i1 iz n0 hzn
            go_wp2_with fail
            go_roundw
            case rel => exact ⟨j + 1, by omega, by go_num, HE3.out⟩
            case measure => simp [intOf]; omega
          ·have HNS : Hid (namS c.kd σ ((k1 : Int), (k2 : Int)) = (p, q)) := Lib.hid (by
            unfold namS
            simp only
            rw [if_pos hs00, HPP.out, HQQ.out, if_neg (fun e => hqp e.2)])
           clear k3
           have t9 := fun w h => penceL_any M p q (.slice ma D.length mc) w h
           rw [show penceF M (p, q) = d by rw [← HNS.out]; exact HPF.out] at t9
           have T9 := Lib.hid t9
           clear t9
           go_upto_region 32 with (fail)
           refine wp_region_rove (WW.heap.size) (Nat.le_refl _)
            [sqV (.slice ma D.length mc), sqV (.int .i64 p), sqV (.int .i64 q), sqV (.int .i64 d), sqV (.slice (some ⟨db, dof, none⟩) D.length dc), sqV (.int .i64 j), sqV (.pointer (some ⟨db, dof + j * 3, none⟩)), sqV (.pointer (some ⟨db, dof + j * 3 + 2, none⟩)), sqV (.int .i64 d), sqV (.bool false)]
            [true, true, true, true, true, true, true, true, true, true] [false, false, false, false, false, false, false, false, false, false] [true, true, true, true, true, true, true, true, true, true] [true, true, true, true, true, true, true, true, true, true]
            (by kernel_rfl) (by kernel_rfl) (by decide +kernel) (by decide +kernel) (by decide +kernel) rfl ⟨rfl, rfl⟩ ⟨?s0, ?s1, ?s2, ?s3, ?s4, ?s5, ?s6, ?s7, ?s8, ?s9, trivial⟩ [some 215, some 216, some 217, some 218, some 219, some 220, some 221, some 222, some 223, some 224] rfl rfl ?send
           case s0 =>
            intro val ρ W hE hz hd hA hx
            have o0 : ρ (.tmp 17) = .slice ma D.length mc := hA.old 17 (by decide)
            clear hd
            exact runq_val (W' := W) (by simp [execOp, o0, go_sem]) (Below.refl _ _) rfl
           case s1 =>
            intro val ρ W hE hz hd hA hx
            have o0 : ρ (.tmp 24) = .int .i64 p := hA.old 24 (by decide)
            clear hd
            exact runq_val (W' := W) (by simp [execOp, o0, go_sem]) (Below.refl _ _) rfl
           case s2 =>
            intro val ρ W hE hz hd hA hx
            have o0 : ρ (.tmp 25) = .int .i64 q := hA.old 25 (by decide)
            clear hd
            exact runq_val (W' := W) (by simp [execOp, o0, go_sem]) (Below.refl _ _) rfl
           case s3 =>
            intro val ρ W hE hz hd hA hx
            have d0 : ρ (.tmp 215) = .slice ma D.length mc := (hA.dep 0 (by decide) 215 rfl).trans (hd 0 (by decide))
            have d1 : ρ (.tmp 216) = .int .i64 p := (hA.dep 1 (by decide) 216 rfl).trans (hd 1 (by decide))
            have d2 : ρ (.tmp 217) = .int .i64 q := (hA.dep 2 (by decide) 217 rfl).trans (hd 2 (by decide))
            clear hd
            refine runq_call 48 _ _ rfl #[.slice ma D.length mc, .int .i64 p, .int .i64 q] (hA.func _) (by simp [d0, d1, d2]) (fun args W => Try.call48 args W) ((T9.out W (HM.out.ext (HE2.out.trans' hE))).mono ?_)
            rintro e w' ⟨rfl, hb⟩
            exact ⟨_, rfl, hb, rfl⟩
           case s4 =>
            intro val ρ W hE hz hd hA hx
            have o0 : ρ (.tmp 15) = .slice (some ⟨db, dof, none⟩) D.length dc := hA.old 15 (by decide)
            clear hd
            exact runq_val (W' := W) (by simp [execOp, o0, go_sem]) (Below.refl _ _) rfl
           case s5 =>
            intro val ρ W hE hz hd hA hx
            have o0 : ρ (.tmp 23) = .int .i64 j := hA.old 23 (by decide)
            clear hd
            exact runq_val (W' := W) (by simp [execOp, o0, go_sem]) (Below.refl _ _) rfl
           case s6 =>
            intro val ρ W hE hz hd hA hx
            have d4 : ρ (.tmp 219) = .slice (some ⟨db, dof, none⟩) D.length dc := (hA.dep 4 (by decide) 219 rfl).trans (hd 4 (by decide))
            have d5 : ρ (.tmp 220) = .int .i64 j := (hA.dep 5 (by decide) 220 rfl).trans (hd 5 (by decide))
            clear hd
            exact runq_val (W' := W) (by simp [execOp, d4, d5, hji, go_sem]) (Below.refl _ _) rfl
           case s7 =>
            intro val ρ W hE hz hd hA hx
            have d6 : ρ (.tmp 221) = .pointer (some ⟨db, dof + j * 3, none⟩) := (hA.dep 6 (by decide) 221 rfl).trans (hd 6 (by decide))
            clear hd
            exact runq_val (W' := W) (by simp [execOp, d6, go_sem]) (Below.refl _ _) rfl
           case s8 =>
            intro val ρ W hE hz hd hA hx
            have d7 : ρ (.tmp 222) = .pointer (some ⟨db, dof + j * 3 + 2, none⟩) := (hA.dep 7 (by decide) 222 rfl).trans (hd 7 (by decide))
            have f_m2 := cell_below hE (by simp only; omega) m2
            clear hd
            exact runq_val (W' := W) (by simp [execOp, d7, f_m2, go_sem]) (Below.refl _ _) rfl
           case s9 =>
            intro val ρ W hE hz hd hA hx
            have d3 : ρ (.tmp 218) = .int .i64 d := (hA.dep 3 (by decide) 218 rfl).trans (hd 3 (by decide))
            have d8 : ρ (.tmp 223) = .int .i64 d := (hA.dep 8 (by decide) 223 rfl).trans (hd 8 (by decide))
            clear hd
            exact runq_val (W' := W) (by simp [execOp, d3, d8, go_sem]) (Below.refl _ _) rfl
           case send =>
            intro val WZ hE hzz hv
            obtain ⟨-, -, -, -, -, -, -, -, -, r9, -⟩ := hv
            have q9 : val 9 = .bool false := r9
            simp only [putD, q9]
            go_frame
            have HE3 := Lib.hid (HE2.out.trans' hE)
            clear hE hzz q9 m0 m1 m2 hzm i0 i1 iz n0 hzn
            go_wp2_with fail
            go_roundw
            case rel => exact ⟨j + 1, by omega, by go_num, HE3.out⟩
            case measure => simp [intOf]; omega
         ·have f3 : (c.kd == 3) = false := by rw [beq_eq_false_iff_ne]; exact k3
          have HNS : Hid (namS c.kd σ ((k1 : Int), (k2 : Int)) = (p, q)) := Lib.hid (by
           unfold namS
           simp only
           rw [if_pos hs00, HPP.out, HQQ.out, if_neg (fun e => k3 e.1)])
          clear k3
          have t9 := fun w h => penceL_any M p q (.slice ma D.length mc) w h
          rw [show penceF M (p, q) = d by rw [← HNS.out]; exact HPF.out] at t9
          have T9 := Lib.hid t9
          clear t9
          go_upto_region 32 with (fail)
          refine wp_region_rove (WW.heap.size) (Nat.le_refl _)
           [sqV (.slice ma D.length mc), sqV (.int .i64 p), sqV (.int .i64 q), sqV (.int .i64 d), sqV (.slice (some ⟨db, dof, none⟩) D.length dc), sqV (.int .i64 j), sqV (.pointer (some ⟨db, dof + j * 3, none⟩)), sqV (.pointer (some ⟨db, dof + j * 3 + 2, none⟩)), sqV (.int .i64 d), sqV (.bool false)]
           [true, true, true, true, true, true, true, true, true, true] [false, false, false, false, false, false, false, false, false, false] [true, true, true, true, true, true, true, true, true, true] [true, true, true, true, true, true, true, true, true, true]
           (by kernel_rfl) (by kernel_rfl) (by decide +kernel) (by decide +kernel) (by decide +kernel) rfl ⟨rfl, rfl⟩ ⟨?s0, ?s1, ?s2, ?s3, ?s4, ?s5, ?s6, ?s7, ?s8, ?s9, trivial⟩ [some 215, some 216, some 217, some 218, some 219, some 220, some 221, some 222, some 223, some 224] rfl rfl ?send
          case s0 =>
           intro val ρ W hE hz hd hA hx
           have o0 : ρ (.tmp 17) = .slice ma D.length mc := hA.old 17 (by decide)
           clear hd
           exact runq_val (W' := W) (by simp [execOp, o0, go_sem]) (Below.refl _ _) rfl
          case s1 =>
           intro val ρ W hE hz hd hA hx
           have o0 : ρ (.tmp 24) = .int .i64 p := hA.old 24 (by decide)
           clear hd
           exact runq_val (W' := W) (by simp [execOp, o0, go_sem]) (Below.refl _ _) rfl
          case s2 =>
           intro val ρ W hE hz hd hA hx
           have o0 : ρ (.tmp 25) = .int .i64 q := hA.old 25 (by decide)
           clear hd
           exact runq_val (W' := W) (by simp [execOp, o0, go_sem]) (Below.refl _ _) rfl
          case s3 =>
           intro val ρ W hE hz hd hA hx
           have d0 : ρ (.tmp 215) = .slice ma D.length mc := (hA.dep 0 (by decide) 215 rfl).trans (hd 0 (by decide))
           have d1 : ρ (.tmp 216) = .int .i64 p := (hA.dep 1 (by decide) 216 rfl).trans (hd 1 (by decide))
           have d2 : ρ (.tmp 217) = .int .i64 q := (hA.dep 2 (by decide) 217 rfl).trans (hd 2 (by decide))
           clear hd
           refine runq_call 48 _ _ rfl #[.slice ma D.length mc, .int .i64 p, .int .i64 q] (hA.func _) (by simp [d0, d1, d2]) (fun args W => Try.call48 args W) ((T9.out W (HM.out.ext (HE2.out.trans' hE))).mono ?_)
           rintro e w' ⟨rfl, hb⟩
           exact ⟨_, rfl, hb, rfl⟩
          case s4 =>
           intro val ρ W hE hz hd hA hx
           have o0 : ρ (.tmp 15) = .slice (some ⟨db, dof, none⟩) D.length dc := hA.old 15 (by decide)
           clear hd
           exact runq_val (W' := W) (by simp [execOp, o0, go_sem]) (Below.refl _ _) rfl
          case s5 =>
           intro val ρ W hE hz hd hA hx
           have o0 : ρ (.tmp 23) = .int .i64 j := hA.old 23 (by decide)
           clear hd
           exact runq_val (W' := W) (by simp [execOp, o0, go_sem]) (Below.refl _ _) rfl
          case s6 =>
           intro val ρ W hE hz hd hA hx
           have d4 : ρ (.tmp 219) = .slice (some ⟨db, dof, none⟩) D.length dc := (hA.dep 4 (by decide) 219 rfl).trans (hd 4 (by decide))
           have d5 : ρ (.tmp 220) = .int .i64 j := (hA.dep 5 (by decide) 220 rfl).trans (hd 5 (by decide))
           clear hd
           exact runq_val (W' := W) (by simp [execOp, d4, d5, hji, go_sem]) (Below.refl _ _) rfl
          case s7 =>
           intro val ρ W hE hz hd hA hx
           have d6 : ρ (.tmp 221) = .pointer (some ⟨db, dof + j * 3, none⟩) := (hA.dep 6 (by decide) 221 rfl).trans (hd 6 (by decide))
           clear hd
           exact runq_val (W' := W) (by simp [execOp, d6, go_sem]) (Below.refl _ _) rfl
          case s8 =>
           intro val ρ W hE hz hd hA hx
           have d7 : ρ (.tmp 222) = .pointer (some ⟨db, dof + j * 3 + 2, none⟩) := (hA.dep 7 (by decide) 222 rfl).trans (hd 7 (by decide))
           have f_m2 := cell_below hE (by simp only; omega) m2
           clear hd
           exact runq_val (W' := W) (by simp [execOp, d7, f_m2, go_sem]) (Below.refl _ _) rfl
          case s9 =>
           intro val ρ W hE hz hd hA hx
           have d3 : ρ (.tmp 218) = .int .i64 d := (hA.dep 3 (by decide) 218 rfl).trans (hd 3 (by decide))
           have d8 : ρ (.tmp 223) = .int .i64 d := (hA.dep 8 (by decide) 223 rfl).trans (hd 8 (by decide))
           clear hd
           exact runq_val (W' := W) (by simp [execOp, d3, d8, go_sem]) (Below.refl _ _) rfl
          case send =>
           intro val WZ hE hzz hv
           obtain ⟨-, -, -, -, -, -, -, -, -, r9, -⟩ := hv
           have q9 : val 9 = .bool false := r9
           simp only [putD, q9]
           go_frame
           have HE3 := Lib.hid (HE2.out.trans' hE)
           clear hE hzz q9 m0 m1 m2 hzm i0 i1 iz n0 hzn
           go_wp2_with fail
           go_roundw
           case rel => exact ⟨j + 1, by omega, by go_num, HE3.out⟩
           case measure => simp [intOf]; omega
        ·have hsg : single c = true := by
          cases hsg : single c
          ·have := (HO3.out hsg).1; omega
          ·rfl
         have hs1 := HO2.out hsg
         subst hs1
         have k3 : ¬ c.kd = 3 := fun hk => by unfold single at hsg; simp [hk] at hsg
         have f3 : (c.kd == 3) = false := by rw [beq_eq_false_iff_ne]; exact k3
         have HNS : Hid (namS c.kd σ ((k1 : Int), -1) = (p, -1)) := Lib.hid (by
          have e9 : (if (0 : Int) ≤ -1 then nm σ (-1) else -1) = -1 := if_neg (by omega)
          unfold namS
          simp only
          rw [e9, HPP.out, if_neg (fun e => k3 e.1)])
         clear hsg k3 hs0
         have t9 := fun w h => penceL_any M p (-1) (.slice ma D.length mc) w h
         rw [show penceF M (p, (-1)) = d by rw [← HNS.out]; exact HPF.out] at t9
         have T9 := Lib.hid t9
         clear t9
         go_upto_region 32 with (fail)
         refine wp_region_rove (WW.heap.size) (Nat.le_refl _)
          [sqV (.slice ma D.length mc), sqV (.int .i64 p), sqV (.int .i64 (-1)), sqV (.int .i64 d), sqV (.slice (some ⟨db, dof, none⟩) D.length dc), sqV (.int .i64 j), sqV (.pointer (some ⟨db, dof + j * 3, none⟩)), sqV (.pointer (some ⟨db, dof + j * 3 + 2, none⟩)), sqV (.int .i64 d), sqV (.bool false)]
          [true, true, true, true, true, true, true, true, true, true] [false, false, false, false, false, false, false, false, false, false] [true, true, true, true, true, true, true, true, true, true] [true, true, true, true, true, true, true, true, true, true]
          (by kernel_rfl) (by kernel_rfl) (by decide +kernel) (by decide +kernel) (by decide +kernel) rfl ⟨rfl, rfl⟩ ⟨?s0, ?s1, ?s2, ?s3, ?s4, ?s5, ?s6, ?s7, ?s8, ?s9, trivial⟩ [some 215, some 216, some 217, some 218, some 219, some 220, some 221, some 222, some 223, some 224] rfl rfl ?send
         case s0 =>
          intro val ρ W hE hz hd hA hx
          have o0 : ρ (.tmp 17) = .slice ma D.length mc := hA.old 17 (by decide)
          clear hd
          exact runq_val (W' := W) (by simp [execOp, o0, go_sem]) (Below.refl _ _) rfl
         case s1 =>
          intro val ρ W hE hz hd hA hx
          have o0 : ρ (.tmp 24) = .int .i64 p := hA.old 24 (by decide)
          clear hd
          exact runq_val (W' := W) (by simp [execOp, o0, go_sem]) (Below.refl _ _) rfl
         case s2 =>
          intro val ρ W hE hz hd hA hx
          have o0 : ρ (.tmp 25) = .int .i64 (-1) := hA.old 25 (by decide)
          clear hd
          exact runq_val (W' := W) (by simp [execOp, o0, go_sem]) (Below.refl _ _) rfl
         case s3 =>
          intro val ρ W hE hz hd hA hx
          have d0 : ρ (.tmp 215) = .slice ma D.length mc := (hA.dep 0 (by decide) 215 rfl).trans (hd 0 (by decide))
          have d1 : ρ (.tmp 216) = .int .i64 p := (hA.dep 1 (by decide) 216 rfl).trans (hd 1 (by decide))
          have d2 : ρ (.tmp 217) = .int .i64 (-1) := (hA.dep 2 (by decide) 217 rfl).trans (hd 2 (by decide))
          clear hd
          refine runq_call 48 _ _ rfl #[.slice ma D.length mc, .int .i64 p, .int .i64 (-1)] (hA.func _) (by simp [d0, d1, d2]) (fun args W => Try.call48 args W) ((T9.out W (HM.out.ext (HE2.out.trans' hE))).mono ?_)
          rintro e w' ⟨rfl, hb⟩
          exact ⟨_, rfl, hb, rfl⟩
         case s4 =>
          intro val ρ W hE hz hd hA hx
          have o0 : ρ (.tmp 15) = .slice (some ⟨db, dof, none⟩) D.length dc := hA.old 15 (by decide)
          clear hd
          exact runq_val (W' := W) (by simp [execOp, o0, go_sem]) (Below.refl _ _) rfl
         case s5 =>
          intro val ρ W hE hz hd hA hx
          have o0 : ρ (.tmp 23) = .int .i64 j := hA.old 23 (by decide)
          clear hd
          exact runq_val (W' := W) (by simp [execOp, o0, go_sem]) (Below.refl _ _) rfl
         case s6 =>
          intro val ρ W hE hz hd hA hx
          have d4 : ρ (.tmp 219) = .slice (some ⟨db, dof, none⟩) D.length dc := (hA.dep 4 (by decide) 219 rfl).trans (hd 4 (by decide))
          have d5 : ρ (.tmp 220) = .int .i64 j := (hA.dep 5 (by decide) 220 rfl).trans (hd 5 (by decide))
          clear hd
          exact runq_val (W' := W) (by simp [execOp, d4, d5, hji, go_sem]) (Below.refl _ _) rfl
         case s7 =>
          intro val ρ W hE hz hd hA hx
          have d6 : ρ (.tmp 221) = .pointer (some ⟨db, dof + j * 3, none⟩) := (hA.dep 6 (by decide) 221 rfl).trans (hd 6 (by decide))
          clear hd
          exact runq_val (W' := W) (by simp [execOp, d6, go_sem]) (Below.refl _ _) rfl
         case s8 =>
          intro val ρ W hE hz hd hA hx
          have d7 : ρ (.tmp 222) = .pointer (some ⟨db, dof + j * 3 + 2, none⟩) := (hA.dep 7 (by decide) 222 rfl).trans (hd 7 (by decide))
          have f_m2 := cell_below hE (by simp only; omega) m2
          clear hd
          exact runq_val (W' := W) (by simp [execOp, d7, f_m2, go_sem]) (Below.refl _ _) rfl
         case s9 =>
          intro val ρ W hE hz hd hA hx
          have d3 : ρ (.tmp 218) = .int .i64 d := (hA.dep 3 (by decide) 218 rfl).trans (hd 3 (by decide))
          have d8 : ρ (.tmp 223) = .int .i64 d := (hA.dep 8 (by decide) 223 rfl).trans (hd 8 (by decide))
          clear hd
          exact runq_val (W' := W) (by simp [execOp, d3, d8, go_sem]) (Below.refl _ _) rfl
         case send =>
          intro val WZ hE hzz hv
          obtain ⟨-, -, -, -, -, -, -, -, -, r9, -⟩ := hv
          have q9 : val 9 = .bool false := r9
          simp only [putD, q9]
          go_frame
          have HE3 := Lib.hid (HE2.out.trans' hE)
          clear hE hzz q9 m0 m1 m2 hzm i0 i1 iz n0 hzn
          go_wp2_with fail
          go_roundw
          case rel => exact ⟨j + 1, by omega, by go_num, HE3.out⟩
          case measure => simp [intOf]; omega
      ·have hji : ¬ ((j : Int) < (D.length : Int)) := by omega
       obtain ⟨gk, rfl⟩ := grow_of hE
       clear hE
       go_wp2_with fail
       refine (worksL_any _).mono ?_
       rintro e W9 ⟨rfl, hE9⟩
       have HE9 := Lib.hid (HE.out.trans' hE9)
       clear hE9
       go_wp2_with fail
       go_ret
       exact ⟨rfl, HWS.out.trans' HE9.out⟩
end Go.Proofs.Ytphajlldghcnnaa
namespace Go.Proofs.Ytphajlldghcnnaa
open Go.RowKit
open Go.ChangeShapes Go.WideShapes Go.ChangeAt in
set_option maxRecDepth 100000 in
theorem poolNamed_lifted (os : Os) (started : os.Started) (H : Type) (enc : TypeId × Value → H) :
  ReturnsInHanded {} Try.checked os 13 .any (Rows.poolNamedSpec.pre6 enc Try.prog Try.f13 Rows.poolNamedRow.domain false) (Rows.poolNamedSpec.post enc Try.prog Try.f13 false true false false) := by
 refine returnsInHanded_of_change (C := Try.checked) own started (by kernel_rfl) Try.func13
  (ChangeSpec.witness6 (enc := enc) (C := Try.checked) false ⟨#[], #[.agg #[.int .i64 0, .int .i64 0, .slice none 0 0, .slice none 0 0, .bool false, .int .i64 0, .int .i64 0, .int .i64 0], .slice none 0 0, .slice none 0 0], []⟩ 8 (by kernel_rfl) (by kernel_rfl) (by kernel_rfl) (by kernel_rfl)) ?_
 intro W base args ds gs before hval0 hW hcnd _
 have hval : ∀ (j : Nat) t v, Try.f13.params[j]? = some t → args[j]? = some v → Value.okWide Try.prog W .any base t v := hval0
 have hW' := hW
 obtain ⟨p, q, hA0, hV, rfl, hfz, hnd⟩ := hW
 have hA : DataW.TrodAll enc Try.prog W 0 (fun _ => true) true Try.f13.params.toList args.toList ds p := hA0
 rw [Try.params13] at hA hval
 obtain ⟨v0, vs0, d0, ds0, p0, q0, hargs, rfl, rfl, h0, r0⟩ := trodAll_cons hA
 obtain ⟨v1, vs1, d1, ds1, p1, q1, rfl, rfl, rfl, h1, r1⟩ := trodAll_cons r0
 obtain ⟨v2, vs2, d2, ds2, p2, q2, rfl, rfl, rfl, h2, r2⟩ := trodAll_cons r1
 obtain ⟨rfl, rfl, rfl⟩ := trodAll_nil r2
 obtain rfl : args = #[v0, v1, v2] := by cases args; simp_all
 obtain ⟨b, ba, bs, bc, bd, rfl, hb⟩ := openBook (hval 0 25 v0 rfl rfl) h0
 obtain ⟨ns, hns, wns⟩ := openNumsK (k := .u8) Try.underlying59 Try.underlying5 (by kernel_rfl) (hval 1 59 v1 rfl rfl) h1
 obtain ⟨ss, hss, wss⟩ := openNumsK (k := .u8) Try.underlying59 Try.underlying5 (by kernel_rfl) (hval 2 59 v2 rfl rfl) h2
 clear hA0 hval0
 refine (poolNamed_any b ba bs bc bd v1 ns v2 ss W hb hns wns hss wss).mono fun e W' ⟨he, hb⟩ => ?_
 subst he
 exact ⟨_, rfl, law_post laidOut (tb := 4) (hts_of (by kernel_rfl)) (by kernel_rfl) Try.underlying4 hW' rfl rfl hb⟩
theorem poolNamed_holds : Rows.PoolNamedSaid :=
 OpenClaim.holds_of_wide 13 Try.f13 rfl rfl rfl rfl rfl rfl rfl ⟨rfl, rfl, rfl, rfl, rfl⟩ rfl rfl rfl rfl rfl (by kernel_rfl) Try.func13 (by kernel_rfl)
  (of_decide_eq_true (by kernel_rfl)) (by unfold Func.isWrapper; first | (rw [if_pos (by decide +kernel)]; kernel_rfl) | (rw [if_neg (by decide +kernel)]; exact ⟨rfl, rfl⟩))
  (fun os started H enc _ => poolNamed_lifted os started H enc)
end Go.Proofs.Ytphajlldghcnnaa
