/-
 The statement PoolMore holds: what becomes of dividends with more Carried, more Duty, and a Step of 1; for every valid book, and a finish by numbers. No condition.
-/
import Derived.Test.YtphajlldghcnnaaPy
import Derived.Test.YtphajlldghcnnaaPn
import Derived.Test.YtphajlldghcnnaaPm
import Derived.Test.YtphajlldghcnnaaBalanced
import Derived.Test.YtphajlldghcnnaaPx
import Derived.Test.YtphajlldghcnnaaRoveG
namespace Go.Proofs.Ytphajlldghcnnaa
open Go.RowKit Go.Shelf
/-- three new blocks, apart from each other, that hold the same row -/
def ThreeB (X W : World) (vs : Array Value) (pv qv rv : Value) : Prop := ∃ p q r : Nat, pv = .pointer (some ⟨p, 0, none⟩) ∧ qv = .pointer (some ⟨q, 0, none⟩) ∧ rv = .pointer (some ⟨r, 0, none⟩) ∧ (X.heap.size ≤ p ∧ X.heap.size ≤ q ∧ X.heap.size ≤ r) ∧ (p ≠ q ∧ p ≠ r ∧ q ≠ r) ∧ Ext X W ∧ RowB W p vs ∧ RowB W q vs ∧ RowB W r vs
theorem row_past {W : World} {p : Nat} {vs : Array Value} (h : RowB W p vs) {q o : Nat} {v : Value} (hn : p ≠ q) : RowB (W.setCell ⟨q, o, none⟩ v) p vs := by
 unfold RowB at h ⊢
 simp [World.setCell, Array.getElem?_modify, hn.symm, h]
theorem three_al (X : World) (vs : Array Value) : RowB ((((X.alloc (.cells vs 25)).alloc (.cells vs 25)).alloc (.cells vs 25)).drew) X.heap.size vs ∧ RowB ((((X.alloc (.cells vs 25)).alloc (.cells vs 25)).alloc (.cells vs 25)).drew) (X.heap.size + 1) vs ∧ RowB ((((X.alloc (.cells vs 25)).alloc (.cells vs 25)).alloc (.cells vs 25)).drew) (X.heap.size + 1 + 1) vs := by
 obtain ⟨c, hc⟩ : ∃ c : Obj, c = .cells vs 25 := ⟨_, rfl⟩
 have h1 : (X.alloc c).heap[X.heap.size]? = some c := World.alloc_heap_new X c
 have h2 : ((X.alloc c).alloc c).heap[X.heap.size + 1]? = some c := by
  have := World.alloc_heap_new (X.alloc c) c
  rwa [World.size_alloc] at this
 have h3 : (((X.alloc c).alloc c).alloc c).heap[X.heap.size + 1 + 1]? = some c := by
  have := World.alloc_heap_new ((X.alloc c).alloc c) c
  rwa [World.size_alloc, World.size_alloc] at this
 have e1 : Ext (X.alloc c) (((X.alloc c).alloc c).alloc c) := by exact xx
 have e2 : Ext ((X.alloc c).alloc c) (((X.alloc c).alloc c).alloc c) := by exact xx
 unfold RowB
 rw [← hc]
 exact ⟨(e1.block _ (by simp)).trans h1, (e2.block _ (by simp)).trans h2, h3⟩
set_option maxRecDepth 200000 in
set_option maxHeartbeats 8000000 in
theorem poolMore_any (b : Bk) (ba sa : Option Addr) (bcap scap : Nat) (nv : Value) (bs : List Int) (mo du : Int) (w : World) (hv : IsBook w b ba bcap sa scap) (hb : IsRows w 1 nv (bs.map fun n => [.int .u8 n])) (hw8 : ∀ x ∈ bs, (Lit.int .u8 x).wf = true) (hmo : (Lit.int .u32 mo).wf = true) (hdu : (Lit.int .u16 du).wf = true) : Calls Try.prog 11 #[.agg #[.int .i64 b.kd, .int .i64 b.n, .slice ba b.bets.length bcap, .slice sa b.scr.length scap, .bool b.fav, .int .i64 b.car, .int .i64 b.duty, .int .i64 b.step], nv, .int .u32 mo, .int .u16 du] w fun e w' => e = .returned (.bool true) ∧ Ext w w' := by
 have hbI : IsInts w .u8 nv bs := hb
 obtain ⟨na, ncap, rfl, hn1, hn2, -⟩ := hbI.spec
 have HN := Lib.hid hbI
 have H8 := Lib.hid (u8l hw8)
 clear hb hbI hw8
 have HV := Lib.hid hv
 clear hv
 go_enter Try.func11, Try.ntmps11
 go_upto_region 1 with (fail)
 obtain ⟨W0, hW0⟩ : ∃ W0, W0 = w.alloc (.cells #[.int .i64 b.kd, .int .i64 b.n, .slice ba b.bets.length bcap, .slice sa b.scr.length scap, .bool b.fav, .int .i64 b.car, .int .i64 b.duty, .int .i64 b.step] 25) := ⟨_, rfl⟩
 have hE : Ext w W0 := by rw [hW0]; exact xx
 have k0 : W0.cell? ⟨w.heap.size, 0, none⟩ = some (.int .i64 b.kd) := by rw [hW0]; simp [go_sem]
 have k1 : W0.cell? ⟨w.heap.size, 1, none⟩ = some (.int .i64 b.n) := by rw [hW0]; simp [go_sem]
 have k2 : W0.cell? ⟨w.heap.size, 2, none⟩ = some (.slice ba b.bets.length bcap) := by rw [hW0]; simp [go_sem]
 have k3 : W0.cell? ⟨w.heap.size, 3, none⟩ = some (.slice sa b.scr.length scap) := by rw [hW0]; simp [go_sem]
 have k4 : W0.cell? ⟨w.heap.size, 4, none⟩ = some (.bool b.fav) := by rw [hW0]; simp [go_sem]
 have k5 : W0.cell? ⟨w.heap.size, 5, none⟩ = some (.int .i64 b.car) := by rw [hW0]; simp [go_sem]
 have k6 : W0.cell? ⟨w.heap.size, 6, none⟩ = some (.int .i64 b.duty) := by rw [hW0]; simp [go_sem]
 have k7 : W0.cell? ⟨w.heap.size, 7, none⟩ = some (.int .i64 b.step) := by rw [hW0]; simp [go_sem]
 have hz : w.heap.size < W0.heap.size := World.block_lt_of_cell? _ _ k0
 have HS := Lib.hid (HV.out.ext hE)
 have HW := Lib.hid hE
 rw [← hW0]
 clear hW0 HV
 have HNW := Lib.hid (HN.out.ext hE)
 clear hE HN




 go_wp2_with fail
 refine callW (W0 := W0) (g := ⟨W0, Below.refl _ _⟩) xx (fineL_any b ba sa bcap scap _ (HS.out.ext xx)) fun g1 hgr => ?_
 clear hgr
 cases hfi : fineB b
 ·skip

  go_wp2_with fail
  refine callW (W0 := W0) (g := g1) xx (worksL_any _) fun g2 hgr => ?_
  clear hgr
  go_wp2_with fail
  go_ret
  exact ⟨rfl, HW.out.trans' (grow_below W0 _)⟩

 have H0 := Lib.hid (fine_val hfi)
 have V := Lib.hid (bval_of (fine_val hfi))
 clear hfi
 by_cases hl : 20 < bs.length
 ·have hli : (20 : Int) < (bs.length : Int) := by omega
  have HL := Lib.hid hl
  clear hl

  go_wp2_with fail
  refine callW (W0 := W0) (g := g1) xx (worksL_any _) fun g3 hgr => ?_
  clear hgr
  go_wp2_with fail
  go_ret
  exact ⟨rfl, HW.out.trans' (grow_below W0 _)⟩

 have hli : ¬ ((20 : Int) < (bs.length : Int)) := by omega
 have HL := Lib.hid hl
 clear hl
 go_wp2_with fail
 refine callWR (W0 := W0) (g := g1) xx (finishL_any _ bs b ba sa bcap scap _ (HS.out.ext xx) V.out (HNW.out.ext xx) H8.out) (fun _ _ ⟨_, _, _, r, _⟩ => r) fun _ g4 hgr hr => ?_
 obtain ⟨fv, ps, rfl, -, hll, hfs⟩ := hr
 clear hgr
 obtain ⟨fa, fcap, rfl, -, -, -⟩ := hll.fin.spec
 have HF := Lib.hid hll.fin
 have FV : Hid (FinV b (finsOf ps)) := Lib.hid (by rw [hfs]; exact finL_val V.out bs)
 have FE := Lib.hid (finErr_of H0.out FV.out)
 clear hll hfs

 go_upto_region 4 with (fail)
 obtain ⟨X, hX⟩ : ∃ zz9, zz9 = (grow W0 g4) := ⟨_, rfl⟩
 have eX : Ext W0 X := by rw [hX]; exact xx
 have eXc : Ext (grow W0 g4) X := by rw [hX]; exact xx
 replace k0 := cell_ext eX k0
 replace k1 := cell_ext eX k1
 replace k2 := cell_ext eX k2
 replace k3 := cell_ext eX k3
 replace k4 := cell_ext eX k4
 replace k5 := cell_ext eX k5
 replace k6 := cell_ext eX k6
 replace k7 := cell_ext eX k7
 replace HS := Lib.hid (HS.out.ext eX)
 replace HNW := Lib.hid (HNW.out.ext eX)
 replace HF := Lib.hid (HF.out.ext eXc)
 replace HW := Lib.hid (HW.out.trans' eX)
 rw [← hX]
 replace hz := World.block_lt_of_cell? _ _ k0
 clear hX eX eXc
 simp only at hz
 have m10 := fun (o1 : Obj) => cell_ext (Ext.al (Below.refl _ X) o1) k0
 have m11 := fun (o1 : Obj) => cell_ext (Ext.al (Below.refl _ X) o1) k1
 have m12 := fun (o1 : Obj) => cell_ext (Ext.al (Below.refl _ X) o1) k2
 have m13 := fun (o1 : Obj) => cell_ext (Ext.al (Below.refl _ X) o1) k3
 have m14 := fun (o1 : Obj) => cell_ext (Ext.al (Below.refl _ X) o1) k4
 have m15 := fun (o1 : Obj) => cell_ext (Ext.al (Below.refl _ X) o1) k5
 have m16 := fun (o1 : Obj) => cell_ext (Ext.al (Below.refl _ X) o1) k6
 have m17 := fun (o1 : Obj) => cell_ext (Ext.al (Below.refl _ X) o1) k7
 have m20 := fun (o1 o2 : Obj) => cell_ext (Ext.al (Ext.al (Below.refl _ X) o1) o2) k0
 have m21 := fun (o1 o2 : Obj) => cell_ext (Ext.al (Ext.al (Below.refl _ X) o1) o2) k1
 have m22 := fun (o1 o2 : Obj) => cell_ext (Ext.al (Ext.al (Below.refl _ X) o1) o2) k2
 have m23 := fun (o1 o2 : Obj) => cell_ext (Ext.al (Ext.al (Below.refl _ X) o1) o2) k3
 have m24 := fun (o1 o2 : Obj) => cell_ext (Ext.al (Ext.al (Below.refl _ X) o1) o2) k4
 have m25 := fun (o1 o2 : Obj) => cell_ext (Ext.al (Ext.al (Below.refl _ X) o1) o2) k5
 have m26 := fun (o1 o2 : Obj) => cell_ext (Ext.al (Ext.al (Below.refl _ X) o1) o2) k6
 have m27 := fun (o1 o2 : Obj) => cell_ext (Ext.al (Ext.al (Below.refl _ X) o1) o2) k7
 have m30 := fun (o1 o2 o3 : Obj) => cell_ext (Ext.al (Ext.al (Ext.al (Below.refl _ X) o1) o2) o3) k0
 have m31 := fun (o1 o2 o3 : Obj) => cell_ext (Ext.al (Ext.al (Ext.al (Below.refl _ X) o1) o2) o3) k1
 have m32 := fun (o1 o2 o3 : Obj) => cell_ext (Ext.al (Ext.al (Ext.al (Below.refl _ X) o1) o2) o3) k2
 have m33 := fun (o1 o2 o3 : Obj) => cell_ext (Ext.al (Ext.al (Ext.al (Below.refl _ X) o1) o2) o3) k3
 have m34 := fun (o1 o2 o3 : Obj) => cell_ext (Ext.al (Ext.al (Ext.al (Below.refl _ X) o1) o2) o3) k4
 have m35 := fun (o1 o2 o3 : Obj) => cell_ext (Ext.al (Ext.al (Ext.al (Below.refl _ X) o1) o2) o3) k5
 have m36 := fun (o1 o2 o3 : Obj) => cell_ext (Ext.al (Ext.al (Ext.al (Below.refl _ X) o1) o2) o3) k6
 have m37 := fun (o1 o2 o3 : Obj) => cell_ext (Ext.al (Ext.al (Ext.al (Below.refl _ X) o1) o2) o3) k7
 go_cut [10, 11, 12] from 36 (fun pv qv rv wx => ThreeB X wx (#[.int .i64 b.kd, .int .i64 b.n, .slice ba b.bets.length bcap, .slice sa b.scr.length scap, .bool b.fav, .int .i64 b.car, .int .i64 b.duty, .int .i64 b.step]) pv qv rv)
 case first =>
  go_big_region
  all_goals (go_wp2_with fail; go_meet)
  all_goals clear m10 m11 m12 m13 m14 m15 m16 m17 m20 m21 m22 m23 m24 m25 m26 m27 m30 m31 m32 m33 m34 m35 m36 m37
  all_goals
   obtain ⟨h1, h2, h3⟩ := three_al X (#[.int .i64 b.kd, .int .i64 b.n, .slice ba b.bets.length bcap, .slice sa b.scr.length scap, .bool b.fav, .int .i64 b.car, .int .i64 b.duty, .int .i64 b.step])
   exact ⟨_, _, _, rfl, rfl, rfl, ⟨by omega, by omega, by omega⟩, ⟨by omega, by omega, by omega⟩, by exact xx, by first | exact h1 | exact h2 | exact h3, by first | exact h1 | exact h2 | exact h3, by first | exact h1 | exact h2 | exact h3⟩
 case rest =>
  obtain ⟨p, q, r, rfl, rfl, rfl, ⟨hp, hq, hr⟩, ⟨hpq, hpr, hqr⟩, hE, rp, rq, rr⟩ := hcut
  clear m10 m11 m12 m13 m14 m15 m16 m17 m20 m21 m22 m23 m24 m25 m26 m27 m30 m31 m32 m33 m34 m35 m36 m37
  obtain ⟨Y, rfl⟩ : ∃ Y, Y = wc := ⟨_, rfl⟩
  have HEY := Lib.hid hE
  have HP := Lib.hid rp
  have HQ := Lib.hid rq
  have HR := Lib.hid rr
  have i5 := cell_ext hE k5
  have i6 := cell_ext hE k6
  have iz := World.block_lt_of_cell? _ _ i5
  simp only at iz
  have hx : w.heap.size < X.heap.size := hz
  have np5 : Y.cell? ⟨p, 5, none⟩ = some (.int .i64 b.car) := by rw [cell_of_row _ _ _ _ _ _ rp]; rfl
  have nq6 : Y.cell? ⟨q, 6, none⟩ = some (.int .i64 b.duty) := by rw [cell_of_row _ _ _ _ _ _ rq]; rfl
  have nr7 : Y.cell? ⟨r, 7, none⟩ = some (.int .i64 b.step) := by rw [cell_of_row _ _ _ _ _ _ rr]; rfl
  have fp : ∀ o, Y.frozen? ⟨p, o, none⟩ = false := fun o => by simp [World.frozen?, show Y.heap[p]? = _ from rp]
  have fq : ∀ o, Y.frozen? ⟨q, o, none⟩ = false := fun o => by simp [World.frozen?, show Y.heap[q]? = _ from rq]
  have fr : ∀ o, Y.frozen? ⟨r, o, none⟩ = false := fun o => by simp [World.frozen?, show Y.heap[r]? = _ from rr]
  have zp := World.block_lt_of_cell? _ _ np5
  have zq := World.block_lt_of_cell? _ _ nq6
  have zr := World.block_lt_of_cell? _ _ nr7
  simp only at zp zq zr
  have hpw : ¬ p = w.heap.size := by omega
  have hqw : ¬ q = w.heap.size := by omega
  have hrw : ¬ r = w.heap.size := by omega
  have hqp : ¬ q = p := fun h => hpq h.symm
  have hrp : ¬ r = p := fun h => hpr h.symm
  have hrq : ¬ r = q := fun h => hqr h.symm
  have hmb := bounds_u32 hmo
  have hdb := bounds_u16 hdu
  have hcar := V.out.car
  have hdut := V.out.duty
  have hw1 : IntKind.i64.wrap mo = mo := IntWalk.i64_in _ (by omega)
  have hw2 : IntKind.i64.wrap (b.car + mo) = b.car + mo := IntWalk.i64_in _ (by omega)
  have hw3 : IntKind.i64.wrap du = du := IntWalk.i64_in _ (by omega)
  have hw4 : IntKind.i64.wrap (b.duty + du) = b.duty + du := IntWalk.i64_in _ (by omega)
  have kk0 := Lib.hid k0
  have kk1 := Lib.hid k1
  have kk2 := Lib.hid k2
  have kk3 := Lib.hid k3
  have kk4 := Lib.hid k4
  have kk5 := Lib.hid k5
  have kk6 := Lib.hid k6
  have kk7 := Lib.hid k7
  clear hE rp rq rr k0 k1 k2 k3 k4 k5 k6 k7 hz
  go_upto_region 8 with (fail)
  obtain ⟨C, hC⟩ : ∃ C, C = min 1000000 (b.car + mo) := ⟨_, rfl⟩
  obtain ⟨D, hD⟩ : ∃ D, D = min 500 (b.duty + du) := ⟨_, rfl⟩
  rw [← hC, ← hD]
  have HC : Hid (b.car ≤ C ∧ C ≤ 1000000) := Lib.hid (by omega)
  have HD : Hid (b.duty ≤ D ∧ D ≤ 500) := Lib.hid (by omega)
  clear hC hD hw1 hw2 hw3 hw4 hmb hdb hcar hdut i5 i6 np5 nq6 nr7 fp fq fr
  obtain ⟨Z, hZ⟩ : ∃ Z, Z = ((Y.setCell ⟨p, 5, none⟩ (.int .i64 C)).setCell ⟨q, 6, none⟩ (.int .i64 D)).setCell ⟨r, 7, none⟩ (.int .i64 1) := ⟨_, rfl⟩
  have ra : RowB Z p #[.int .i64 b.kd, .int .i64 b.n, .slice ba b.bets.length bcap, .slice sa b.scr.length scap, .bool b.fav, .int .i64 C, .int .i64 b.duty, .int .i64 b.step] := by
   rw [hZ]
   exact row_past (row_past (heap_setCell_row HP.out 5 (.int .i64 C)) hpq) hpr
  have rb : RowB Z q #[.int .i64 b.kd, .int .i64 b.n, .slice ba b.bets.length bcap, .slice sa b.scr.length scap, .bool b.fav, .int .i64 b.car, .int .i64 D, .int .i64 b.step] := by
   rw [hZ]
   exact row_past (heap_setCell_row (row_past HQ.out hqp) 6 (.int .i64 D)) hqr
  have rc : RowB Z r #[.int .i64 b.kd, .int .i64 b.n, .slice ba b.bets.length bcap, .slice sa b.scr.length scap, .bool b.fav, .int .i64 b.car, .int .i64 b.duty, .int .i64 1] := by
   rw [hZ]
   exact heap_setCell_row (row_past (row_past HR.out hrp) hrq) 7 (.int .i64 1)
  have hE : Ext X Z := by
   rw [hZ]
   exact ((HEY.out.setCell hp _).setCell hq _).setCell hr _
  rw [← hZ]
  clear hZ
  have k0 := cell_ext hE kk0.out
  have k1 := cell_ext hE kk1.out
  have k2 := cell_ext hE kk2.out
  have k3 := cell_ext hE kk3.out
  have k4 := cell_ext hE kk4.out
  have k5 := cell_ext hE kk5.out
  have k6 := cell_ext hE kk6.out
  have k7 := cell_ext hE kk7.out
  have hz := World.block_lt_of_cell? _ _ k0
  have a0 : Z.cell? ⟨p, 0, none⟩ = some (.int .i64 b.kd) := by rw [cell_of_row _ _ _ _ _ _ ra]; rfl
  have a1 : Z.cell? ⟨p, 1, none⟩ = some (.int .i64 b.n) := by rw [cell_of_row _ _ _ _ _ _ ra]; rfl
  have a2 : Z.cell? ⟨p, 2, none⟩ = some (.slice ba b.bets.length bcap) := by rw [cell_of_row _ _ _ _ _ _ ra]; rfl
  have a3 : Z.cell? ⟨p, 3, none⟩ = some (.slice sa b.scr.length scap) := by rw [cell_of_row _ _ _ _ _ _ ra]; rfl
  have a4 : Z.cell? ⟨p, 4, none⟩ = some (.bool b.fav) := by rw [cell_of_row _ _ _ _ _ _ ra]; rfl
  have a5 : Z.cell? ⟨p, 5, none⟩ = some (.int .i64 C) := by rw [cell_of_row _ _ _ _ _ _ ra]; rfl
  have a6 : Z.cell? ⟨p, 6, none⟩ = some (.int .i64 b.duty) := by rw [cell_of_row _ _ _ _ _ _ ra]; rfl
  have a7 : Z.cell? ⟨p, 7, none⟩ = some (.int .i64 b.step) := by rw [cell_of_row _ _ _ _ _ _ ra]; rfl
  have b0 : Z.cell? ⟨q, 0, none⟩ = some (.int .i64 b.kd) := by rw [cell_of_row _ _ _ _ _ _ rb]; rfl
  have b1 : Z.cell? ⟨q, 1, none⟩ = some (.int .i64 b.n) := by rw [cell_of_row _ _ _ _ _ _ rb]; rfl
  have b2 : Z.cell? ⟨q, 2, none⟩ = some (.slice ba b.bets.length bcap) := by rw [cell_of_row _ _ _ _ _ _ rb]; rfl
  have b3 : Z.cell? ⟨q, 3, none⟩ = some (.slice sa b.scr.length scap) := by rw [cell_of_row _ _ _ _ _ _ rb]; rfl
  have b4 : Z.cell? ⟨q, 4, none⟩ = some (.bool b.fav) := by rw [cell_of_row _ _ _ _ _ _ rb]; rfl
  have b5 : Z.cell? ⟨q, 5, none⟩ = some (.int .i64 b.car) := by rw [cell_of_row _ _ _ _ _ _ rb]; rfl
  have b6 : Z.cell? ⟨q, 6, none⟩ = some (.int .i64 D) := by rw [cell_of_row _ _ _ _ _ _ rb]; rfl
  have b7 : Z.cell? ⟨q, 7, none⟩ = some (.int .i64 b.step) := by rw [cell_of_row _ _ _ _ _ _ rb]; rfl
  have c0 : Z.cell? ⟨r, 0, none⟩ = some (.int .i64 b.kd) := by rw [cell_of_row _ _ _ _ _ _ rc]; rfl
  have c1 : Z.cell? ⟨r, 1, none⟩ = some (.int .i64 b.n) := by rw [cell_of_row _ _ _ _ _ _ rc]; rfl
  have c2 : Z.cell? ⟨r, 2, none⟩ = some (.slice ba b.bets.length bcap) := by rw [cell_of_row _ _ _ _ _ _ rc]; rfl
  have c3 : Z.cell? ⟨r, 3, none⟩ = some (.slice sa b.scr.length scap) := by rw [cell_of_row _ _ _ _ _ _ rc]; rfl
  have c4 : Z.cell? ⟨r, 4, none⟩ = some (.bool b.fav) := by rw [cell_of_row _ _ _ _ _ _ rc]; rfl
  have c5 : Z.cell? ⟨r, 5, none⟩ = some (.int .i64 b.car) := by rw [cell_of_row _ _ _ _ _ _ rc]; rfl
  have c6 : Z.cell? ⟨r, 6, none⟩ = some (.int .i64 b.duty) := by rw [cell_of_row _ _ _ _ _ _ rc]; rfl
  have c7 : Z.cell? ⟨r, 7, none⟩ = some (.int .i64 1) := by rw [cell_of_row _ _ _ _ _ _ rc]; rfl
  replace zp := World.block_lt_of_cell? _ _ a0
  replace zq := World.block_lt_of_cell? _ _ b0
  replace zr := World.block_lt_of_cell? _ _ c0
  simp only at hz zp zq zr
  replace HS := Lib.hid (HS.out.ext hE)
  replace HF := Lib.hid (HF.out.ext hE)
  replace HW := Lib.hid (HW.out.trans' hE)
  clear hE ra rb rc HP HQ HR HEY iz hp hq hr hpq hpr hqr hqp hrp hrq hpw hqw hrw hx hmo hdu kk0 kk1 kk2 kk3 kk4 kk5 kk6 kk7




  obtain ⟨L, hL⟩ : ∃ L, L = divP b (finsOf ps) := ⟨_, rfl⟩
  obtain ⟨M, hM⟩ : ∃ M, M = divP (carB b C) (finsOf ps) := ⟨_, rfl⟩
  obtain ⟨N, hN⟩ : ∃ N, N = divP (dutB b D) (finsOf ps) := ⟨_, rfl⟩
  have vx : BVal (carB b C) := V.out.car' ⟨by have := V.out.car; have := HC.out; omega, HC.out.2⟩
  have vy : BVal (dutB b D) := V.out.dut' ⟨by have := V.out.duty; have := HD.out; omega, HD.out.2⟩
  have ex := finErr_of (bkErr_of vx) (FV.out.re vx rfl)
  have ey := finErr_of (bkErr_of vy) (FV.out.re vy rfl)
  have ez := finErr_of (bkErr_of V.out.stp') (FV.out.re V.out.stp' rfl)
  have t1 := fun w h1 h2 => paidL_any ps (.slice fa ps.length fcap) b ba sa bcap scap w h1 h2 FE.out
  have t2 : ∀ w, IsBook w b ba bcap sa scap → IsFin w (.slice fa ps.length fcap) ps → Calls Try.prog 44 #[.agg #[.int .i64 b.kd, .int .i64 b.n, .slice ba b.bets.length bcap, .slice sa b.scr.length scap, .bool b.fav, .int .i64 C, .int .i64 b.duty, .int .i64 b.step], .slice fa ps.length fcap] w (RetPaid w (carB b C) (finsOf ps)) := fun w h1 h2 => paidL_any ps (.slice fa ps.length fcap) (carB b C) ba sa bcap scap w ⟨h1.bets, h1.scr⟩ h2 ex
  have t3 : ∀ w, IsBook w b ba bcap sa scap → IsFin w (.slice fa ps.length fcap) ps → Calls Try.prog 44 #[.agg #[.int .i64 b.kd, .int .i64 b.n, .slice ba b.bets.length bcap, .slice sa b.scr.length scap, .bool b.fav, .int .i64 b.car, .int .i64 D, .int .i64 b.step], .slice fa ps.length fcap] w (RetPaid w (dutB b D) (finsOf ps)) := fun w h1 h2 => paidL_any ps (.slice fa ps.length fcap) (dutB b D) ba sa bcap scap w ⟨h1.bets, h1.scr⟩ h2 ey
  obtain ⟨A, hA⟩ : ∃ A, A = accA b (finsOf ps) := ⟨_, rfl⟩
  obtain ⟨B, hB⟩ : ∃ B, B = accA (stpB b) (finsOf ps) := ⟨_, rfl⟩
  have t4 := fun w h1 h2 => account_any ps (.slice fa ps.length fcap) b ba sa bcap scap w h1 h2
  have t5 : ∀ w, IsBook w b ba bcap sa scap → IsFin w (.slice fa ps.length fcap) ps → Calls Try.prog 34 #[.agg #[.int .i64 b.kd, .int .i64 b.n, .slice ba b.bets.length bcap, .slice sa b.scr.length scap, .bool b.fav, .int .i64 b.car, .int .i64 b.duty, .int .i64 1], .slice fa ps.length fcap] w fun e w' => e = .returned (accE (stpB b) (finsOf ps)) ∧ Ext w w' := fun w h1 h2 => account_any ps (.slice fa ps.length fcap) (stpB b) ba sa bcap scap w ⟨h1.bets, h1.scr⟩ h2
  rw [accE_ok FE.out, ← hA] at t4
  rw [accE_ok ez, ← hB] at t5
  unfold RetPaid at t1 t2 t3
  rw [← hL] at t1
  rw [← hM] at t2
  rw [← hN] at t3
  simp only [accV, accC] at t4 t5
  have hap : A.p ≤ B.p := by rw [hA, hB, acc_p, acc_p]; exact paid_stp FV.out
  have hlm : L.length = M.length := by rw [hL, hM]; exact div_len_eq rfl
  have hln : L.length = N.length := by rw [hL, hN]; exact div_len_eq rfl
  have h64 : L.length ≤ 64 := by rw [hL]; exact divP_le FV.out
  have hmo : ∀ i, (h : i < L.length) → L[i].2 ≤ penceF M L[i].1 ∧ penceF N L[i].1 ≤ L[i].2 := by
   intro i h
   have hm : L[i] ∈ divP b (finsOf ps) := by rw [← hL]; exact List.getElem_mem h
   unfold divP at hm
   obtain ⟨s, hs, he⟩ := List.mem_map.1 hm
   have e1 : penceF (divP (carB b C) (finsOf ps)) s = penceP (carB b C) (finsOf ps) s := penceF_div (b := carB b C) hs
   have e2 : penceF (divP (dutB b D) (finsOf ps)) s = penceP (dutB b D) (finsOf ps) s := penceF_div (b := dutB b D) hs
   rw [← he, hM, hN]
   simp only
   rw [e1, e2]
   exact ⟨pence_car V.out HC.out.1 _ hs, pence_dut V.out HD.out _ hs⟩
  have T1 := Lib.hid t1
  have T2 := Lib.hid t2
  have T3 := Lib.hid t3
  have T4 := Lib.hid t4
  have T5 := Lib.hid t5
  have HMO := Lib.hid hmo
  have HLM := Lib.hid hlm
  have HLN := Lib.hid hln
  clear hlm hln
  clear t1 t2 t3 t4 t5 hL hM hN hA hB vx vy ex ey ez hmo
  go_wp2_with fail
  refine callWR (W0 := Z) (g := ⟨Z, Below.refl _ _⟩) xx (T1.out _ (HS.out.ext xx) (HF.out.ext xx)) (fun _ _ h => h.1) fun _ g1 hgr hr => ?_
  obtain ⟨-, u, rfl, hU⟩ := hr
  clear hgr
  obtain ⟨ua, uc, rfl, hu1, hu2, -⟩ := dvd_cells hU
  have HU := Lib.hid hU
  clear hU

  go_wp2_with fail
  refine callWR (W0 := Z) (g := g1) xx (T2.out _ (HS.out.ext xx) (HF.out.ext xx)) (fun _ _ h => h.1) fun _ g2 hgr hr => ?_
  obtain ⟨-, u, rfl, hU⟩ := hr
  replace HU := Lib.hid (HU.out.ext hgr)
  clear hgr
  obtain ⟨va, vc, rfl, hv1, hv2, -⟩ := dvd_cells hU
  rw [← HLM.out] at hU ⊢
  have HV := Lib.hid hU
  clear hU

  go_wp2_with fail
  refine callWR (W0 := Z) (g := g2) xx (T3.out _ (HS.out.ext xx) (HF.out.ext xx)) (fun _ _ h => h.1) fun _ g3 hgr hr => ?_
  obtain ⟨-, u, rfl, hU⟩ := hr
  replace HU := Lib.hid (HU.out.ext hgr)
  replace HV := Lib.hid (HV.out.ext hgr)
  clear hgr
  obtain ⟨xa, xc, rfl, hx1, hx2, -⟩ := dvd_cells hU
  rw [← HLN.out] at hU ⊢
  have HX := Lib.hid hU
  clear hU

  go_wp2_with fail
  refine callW (W0 := Z) (g := g3) xx (T4.out _ (HS.out.ext xx) (HF.out.ext xx)) fun g4 hgr => ?_
  replace HU := Lib.hid (HU.out.ext hgr)
  replace HV := Lib.hid (HV.out.ext hgr)
  replace HX := Lib.hid (HX.out.ext hgr)
  clear hgr
  go_upto_region 12 with (fail)
  obtain ⟨U1, hU1⟩ : ∃ zz9, zz9 = (grow Z g4).alloc (.cells #[.int .i64 A.i, .int .i64 A.k, .int .i64 A.d, .int .i64 A.p, .int .i64 A.q, .int .i64 A.o] 48) := ⟨_, rfl⟩
  have d3 : U1.cell? ⟨(grow Z g4).heap.size, 3, none⟩ = some (.int .i64 A.p) := by rw [hU1]; simp [go_sem]
  have eU1 : Ext Z U1 := by rw [hU1]; exact xx
  have eU1c : Ext (grow Z g4) U1 := by rw [hU1]; exact xx
  replace k0 := cell_ext eU1 k0
  replace k1 := cell_ext eU1 k1
  replace k2 := cell_ext eU1 k2
  replace k3 := cell_ext eU1 k3
  replace k4 := cell_ext eU1 k4
  replace k5 := cell_ext eU1 k5
  replace k6 := cell_ext eU1 k6
  replace k7 := cell_ext eU1 k7
  replace a0 := cell_ext eU1 a0
  replace a1 := cell_ext eU1 a1
  replace a2 := cell_ext eU1 a2
  replace a3 := cell_ext eU1 a3
  replace a4 := cell_ext eU1 a4
  replace a5 := cell_ext eU1 a5
  replace a6 := cell_ext eU1 a6
  replace a7 := cell_ext eU1 a7
  replace b0 := cell_ext eU1 b0
  replace b1 := cell_ext eU1 b1
  replace b2 := cell_ext eU1 b2
  replace b3 := cell_ext eU1 b3
  replace b4 := cell_ext eU1 b4
  replace b5 := cell_ext eU1 b5
  replace b6 := cell_ext eU1 b6
  replace b7 := cell_ext eU1 b7
  replace c0 := cell_ext eU1 c0
  replace c1 := cell_ext eU1 c1
  replace c2 := cell_ext eU1 c2
  replace c3 := cell_ext eU1 c3
  replace c4 := cell_ext eU1 c4
  replace c5 := cell_ext eU1 c5
  replace c6 := cell_ext eU1 c6
  replace c7 := cell_ext eU1 c7
  replace HS := Lib.hid (HS.out.ext eU1)
  replace HF := Lib.hid (HF.out.ext eU1)
  replace HU := Lib.hid (HU.out.ext eU1c)
  replace HV := Lib.hid (HV.out.ext eU1c)
  replace HX := Lib.hid (HX.out.ext eU1c)
  replace HW := Lib.hid (HW.out.trans' eU1)
  rw [← hU1]
  obtain ⟨qa, hqa⟩ : ∃ b, b = (grow Z g4).heap.size := ⟨_, rfl⟩
  rw [← hqa] at d3 ⊢
  replace hz := World.block_lt_of_cell? _ _ k0
  replace zp := World.block_lt_of_cell? _ _ a0
  replace zq := World.block_lt_of_cell? _ _ b0
  replace zr := World.block_lt_of_cell? _ _ c0
  have zqa := World.block_lt_of_cell? _ _ d3
  simp only at zqa
  clear hU1 eU1 eU1c hqa
  go_wp2_with fail
  refine callW (W0 := U1) (g := ⟨U1, Below.refl _ _⟩) xx (T5.out _ (HS.out.ext xx) (HF.out.ext xx)) fun g5 hgr => ?_
  clear hgr
  go_upto_region 13 with (fail)
  obtain ⟨U, hU⟩ : ∃ zz9, zz9 = (grow U1 g5).alloc (.cells #[.int .i64 B.i, .int .i64 B.k, .int .i64 B.d, .int .i64 B.p, .int .i64 B.q, .int .i64 B.o] 48) := ⟨_, rfl⟩
  have e3 : U.cell? ⟨(grow U1 g5).heap.size, 3, none⟩ = some (.int .i64 B.p) := by rw [hU]; simp [go_sem]
  have eU : Ext U1 U := by rw [hU]; exact xx
  replace k0 := cell_ext eU k0
  replace k1 := cell_ext eU k1
  replace k2 := cell_ext eU k2
  replace k3 := cell_ext eU k3
  replace k4 := cell_ext eU k4
  replace k5 := cell_ext eU k5
  replace k6 := cell_ext eU k6
  replace k7 := cell_ext eU k7
  replace a0 := cell_ext eU a0
  replace a1 := cell_ext eU a1
  replace a2 := cell_ext eU a2
  replace a3 := cell_ext eU a3
  replace a4 := cell_ext eU a4
  replace a5 := cell_ext eU a5
  replace a6 := cell_ext eU a6
  replace a7 := cell_ext eU a7
  replace b0 := cell_ext eU b0
  replace b1 := cell_ext eU b1
  replace b2 := cell_ext eU b2
  replace b3 := cell_ext eU b3
  replace b4 := cell_ext eU b4
  replace b5 := cell_ext eU b5
  replace b6 := cell_ext eU b6
  replace b7 := cell_ext eU b7
  replace c0 := cell_ext eU c0
  replace c1 := cell_ext eU c1
  replace c2 := cell_ext eU c2
  replace c3 := cell_ext eU c3
  replace c4 := cell_ext eU c4
  replace c5 := cell_ext eU c5
  replace c6 := cell_ext eU c6
  replace c7 := cell_ext eU c7
  replace d3 := cell_ext eU d3
  replace HS := Lib.hid (HS.out.ext eU)
  replace HF := Lib.hid (HF.out.ext eU)
  replace HU := Lib.hid (HU.out.ext eU)
  replace HV := Lib.hid (HV.out.ext eU)
  replace HX := Lib.hid (HX.out.ext eU)
  replace HW := Lib.hid (HW.out.trans' eU)
  rw [← hU]
  obtain ⟨qb, hqb⟩ : ∃ b, b = (grow U1 g5).heap.size := ⟨_, rfl⟩
  rw [← hqb] at e3 ⊢
  replace hz := World.block_lt_of_cell? _ _ k0
  replace zp := World.block_lt_of_cell? _ _ a0
  replace zq := World.block_lt_of_cell? _ _ b0
  replace zr := World.block_lt_of_cell? _ _ c0
  replace zqa := World.block_lt_of_cell? _ _ d3
  have zqb := World.block_lt_of_cell? _ _ e3
  simp only at zqb
  clear hU eU hqb
  have x3 : ¬ B.p < A.p := by omega
  have HL := Lib.hid h64
  clear k0 k1 k2 k3 k4 k5 k6 k7 a0 a1 a2 a3 a4 a5 a6 a7 b0 b1 b2 b3 b4 b5 b6 b7 c0 c1 c2 c3 c4 c5 c6 c7 hz zp zq zr HS HF hap
  go_wp2_with fail
  clear d3 e3 x3 zqa zqb
  go_loopw [23] (fun iv W => ∃ k : Nat, k ≤ L.length ∧ iv = .int .i64 k ∧ Ext U W) (fun iv _ => L.length - (intOf iv).toNat)
  case atStart => exact ⟨0, by omega, rfl, Below.refl _ _⟩
  case round =>
   obtain ⟨k, hk, rfl, hE⟩ := hrel
   have HE := Lib.hid hE
   by_cases hlt : k < L.length
   ·have hki : (k : Int) < (L.length : Int) := by omega
    obtain ⟨_, _, e9, -, -, hcm⟩ := dvd_cells HU.out
    cases e9
    obtain ⟨mb, mo', hsb9, hcm2⟩ := hcm k hlt
    subst hsb9
    obtain ⟨m0, m1, m2, hzm⟩ := hcm2 wr hE
    have hmo := HMO.out k hlt
    obtain ⟨y, hy⟩ : ∃ y, y = L[k] := ⟨_, rfl⟩
    rw [← hy] at m0 m1 m2 hmo
    obtain ⟨⟨y1, y2⟩, y3⟩ := y
    simp only at m0 m1 m2 hmo
    obtain ⟨f1, hf1⟩ : ∃ f, f = penceF M (y1, y2) := ⟨_, rfl⟩
    obtain ⟨f2, hf2⟩ : ∃ f, f = penceF N (y1, y2) := ⟨_, rfl⟩
    have t1 := fun w h => penceL_any M y1 y2 (.slice va L.length vc) w h
    have t2 := fun w h => penceL_any N y1 y2 (.slice xa L.length xc) w h
    rw [← hf1] at t1 hmo
    rw [← hf2] at t2 hmo
    have T1 := Lib.hid t1
    have T2 := Lib.hid t2
    obtain ⟨q1, q2⟩ := hmo
    have x1 : ¬ f1 < y3 := by omega
    have x2 : ¬ y3 < f2 := by omega
    clear t1 t2 hf1 hf2 hy hcm hcm2 hE q1 q2
    go_upto_region 18 with (fail)
    refine wp_region_roveG (wr.heap.size) (Nat.le_refl _)
     [sqV (.slice va L.length vc), sqV (.slice (some ⟨mb, mo', none⟩) L.length uc), sqV (.int .i64 k), sqV (.pointer (some ⟨mb, mo' + k * 3, none⟩)), sqV (.pointer (some ⟨mb, mo' + k * 3, none⟩)), sqV (.int .i64 y1), sqV (.slice (some ⟨mb, mo', none⟩) L.length uc), sqV (.int .i64 k), sqV (.pointer (some ⟨mb, mo' + k * 3, none⟩)), sqV (.pointer (some ⟨mb, mo' + k * 3 + 1, none⟩)), sqV (.int .i64 y2), sqV (.int .i64 f1), sqV (.slice (some ⟨mb, mo', none⟩) L.length uc), sqV (.int .i64 k), sqV (.pointer (some ⟨mb, mo' + k * 3, none⟩)), sqV (.pointer (some ⟨mb, mo' + k * 3 + 2, none⟩)), sqV (.int .i64 y3), sqV (.bool false), sqV (.bool false), sqV (.slice xa L.length xc), sqV (.slice (some ⟨mb, mo', none⟩) L.length uc), sqV (.int .i64 k), sqV (.pointer (some ⟨mb, mo' + k * 3, none⟩)), sqV (.pointer (some ⟨mb, mo' + k * 3, none⟩)), sqV (.int .i64 y1), sqV (.slice (some ⟨mb, mo', none⟩) L.length uc), sqV (.int .i64 k), sqV (.pointer (some ⟨mb, mo' + k * 3, none⟩)), sqV (.pointer (some ⟨mb, mo' + k * 3 + 1, none⟩)), sqV (.int .i64 y2), sqV (.int .i64 f2), sqV (.slice (some ⟨mb, mo', none⟩) L.length uc), sqV (.int .i64 k), sqV (.pointer (some ⟨mb, mo' + k * 3, none⟩)), sqV (.pointer (some ⟨mb, mo' + k * 3 + 2, none⟩)), sqV (.int .i64 y3), sqV (.bool false), sqV (.bool false)]
     [true, true, true, true, true, true, true, true, true, true, true, true, true, true, true, true, true, true, true, true, true, true, true, true, true, true, true, true, true, true, true, true, true, true, true, true, true, true] [false, false, false, false, false, false, false, false, false, false, false, false, false, false, false, false, false, false, false, false, false, false, false, false, false, false, false, false, false, false, false, false, false, false, false, false, false, false] [true, true, true, true, true, true, true, true, true, true, true, true, true, true, true, true, true, true, true, true, true, true, true, true, true, true, true, true, true, true, true, true, true, true, true, true, true, true] [true, true, true, true, true, true, true, true, true, true, true, true, true, true, true, true, true, true, true, true, true, true, true, true, true, true, true, true, true, true, true, true, true, true, true, true, true, true] [true, true, true, true, true, true, true, true, true, true, true, true, true, true, true, true, true, true, true, true, true, true, true, true, true, true, true, true, true, true, true, true, true, true, true, true, true, true] [none, none, none, none, none, none, none, none, none, none, none, none, none, none, none, none, none, some false, some false, none, none, none, none, none, none, none, none, none, none, none, none, none, none, none, none, none, some false, some false]
     (by kernel_rfl) (by kernel_rfl) (by decide +kernel) ⟨fun _ _ _ h => h, ⟨fun _ _ _ h => h, ⟨fun _ _ _ h => h, ⟨fun _ _ _ h => h, trivial⟩⟩⟩⟩ (by decide +kernel) (by decide +kernel) (by decide +kernel) rfl ⟨rfl, rfl, rfl⟩ ⟨?s0, ?s1, ?s2, ?s3, ?s4, ?s5, ?s6, ?s7, ?s8, ?s9, ?s10, ?s11, ?s12, ?s13, ?s14, ?s15, ?s16, ?s17, ?s18, ?s19, ?s20, ?s21, ?s22, ?s23, ?s24, ?s25, ?s26, ?s27, ?s28, ?s29, ?s30, ?s31, ?s32, ?s33, ?s34, ?s35, ?s36, ?s37, trivial⟩ [some 129, some 130, some 131, some 132, some 133, some 134, some 135, some 136, some 137, some 138, some 139, some 140, some 141, some 142, some 143, some 144, some 145, some 146, some 147, some 148, some 149, some 150, some 151, some 152, some 153, some 154, some 155, some 156, some 157, some 158, some 159, some 160, some 161, some 162, some 163, some 164, some 165, some 166] rfl rfl ?send
    case s0 =>
     intro val ρ W hE hz hd hu hA hx
     have o0 : ρ (.tmp 15) = .slice va L.length vc := hA.old 15 (by decide)
     clear hd hu
     exact runq_val (W' := W) (by simp [execOp, o0, go_sem]) (Below.refl _ _) rfl
    case s1 =>
     intro val ρ W hE hz hd hu hA hx
     have o0 : ρ (.tmp 13) = .slice (some ⟨mb, mo', none⟩) L.length uc := hA.old 13 (by decide)
     clear hd hu
     exact runq_val (W' := W) (by simp [execOp, o0, go_sem]) (Below.refl _ _) rfl
    case s2 =>
     intro val ρ W hE hz hd hu hA hx
     have o0 : ρ (.tmp 23) = .int .i64 k := hA.old 23 (by decide)
     clear hd hu
     exact runq_val (W' := W) (by simp [execOp, o0, go_sem]) (Below.refl _ _) rfl
    case s3 =>
     intro val ρ W hE hz hd hu hA hx
     have d1 : ρ (.tmp 130) = .slice (some ⟨mb, mo', none⟩) L.length uc := (hA.dep 1 (by decide) 130 rfl).trans (hd 1 (by decide))
     have d2 : ρ (.tmp 131) = .int .i64 k := (hA.dep 2 (by decide) 131 rfl).trans (hd 2 (by decide))
     clear hd hu
     exact runq_val (W' := W) (by simp [execOp, d1, d2, hki, hlt, go_sem]) (Below.refl _ _) rfl
    case s4 =>
     intro val ρ W hE hz hd hu hA hx
     have d3 : ρ (.tmp 132) = .pointer (some ⟨mb, mo' + k * 3, none⟩) := (hA.dep 3 (by decide) 132 rfl).trans (hd 3 (by decide))
     clear hd hu
     exact runq_val (W' := W) (by simp [execOp, d3, go_sem]) (Below.refl _ _) rfl
    case s5 =>
     intro val ρ W hE hz hd hu hA hx
     have d4 : ρ (.tmp 133) = .pointer (some ⟨mb, mo' + k * 3, none⟩) := (hA.dep 4 (by decide) 133 rfl).trans (hd 4 (by decide))
     have f_m0 := cell_below hE (by simp only; omega) m0
     clear hd hu
     exact runq_val (W' := W) (by simp [execOp, d4, f_m0, go_sem]) (Below.refl _ _) rfl
    case s6 =>
     intro val ρ W hE hz hd hu hA hx
     have o0 : ρ (.tmp 13) = .slice (some ⟨mb, mo', none⟩) L.length uc := hA.old 13 (by decide)
     clear hd hu
     exact runq_val (W' := W) (by simp [execOp, o0, go_sem]) (Below.refl _ _) rfl
    case s7 =>
     intro val ρ W hE hz hd hu hA hx
     have o0 : ρ (.tmp 23) = .int .i64 k := hA.old 23 (by decide)
     clear hd hu
     exact runq_val (W' := W) (by simp [execOp, o0, go_sem]) (Below.refl _ _) rfl
    case s8 =>
     intro val ρ W hE hz hd hu hA hx
     have d6 : ρ (.tmp 135) = .slice (some ⟨mb, mo', none⟩) L.length uc := (hA.dep 6 (by decide) 135 rfl).trans (hd 6 (by decide))
     have d7 : ρ (.tmp 136) = .int .i64 k := (hA.dep 7 (by decide) 136 rfl).trans (hd 7 (by decide))
     clear hd hu
     exact runq_val (W' := W) (by simp [execOp, d6, d7, hki, hlt, go_sem]) (Below.refl _ _) rfl
    case s9 =>
     intro val ρ W hE hz hd hu hA hx
     have d8 : ρ (.tmp 137) = .pointer (some ⟨mb, mo' + k * 3, none⟩) := (hA.dep 8 (by decide) 137 rfl).trans (hd 8 (by decide))
     clear hd hu
     exact runq_val (W' := W) (by simp [execOp, d8, go_sem]) (Below.refl _ _) rfl
    case s10 =>
     intro val ρ W hE hz hd hu hA hx
     have d9 : ρ (.tmp 138) = .pointer (some ⟨mb, mo' + k * 3 + 1, none⟩) := (hA.dep 9 (by decide) 138 rfl).trans (hd 9 (by decide))
     have f_m1 := cell_below hE (by simp only; omega) m1
     clear hd hu
     exact runq_val (W' := W) (by simp [execOp, d9, f_m1, go_sem]) (Below.refl _ _) rfl
    case s11 =>
     intro val ρ W hE hz hd hu hA hx
     have d0 : ρ (.tmp 129) = .slice va L.length vc := (hA.dep 0 (by decide) 129 rfl).trans (hd 0 (by decide))
     have d5 : ρ (.tmp 134) = .int .i64 y1 := (hA.dep 5 (by decide) 134 rfl).trans (hd 5 (by decide))
     have d10 : ρ (.tmp 139) = .int .i64 y2 := (hA.dep 10 (by decide) 139 rfl).trans (hd 10 (by decide))
     clear hd hu
     refine runq_call 48 _ _ rfl #[.slice va L.length vc, .int .i64 y1, .int .i64 y2] (hA.func _) (by simp [d0, d5, d10]) (fun args W => Try.call48 args W) ((T1.out W (HV.out.ext (HE.out.trans' hE))).mono ?_)
     rintro e w' ⟨rfl, hb⟩
     exact ⟨_, rfl, hb, rfl⟩
    case s12 =>
     intro val ρ W hE hz hd hu hA hx
     have o0 : ρ (.tmp 13) = .slice (some ⟨mb, mo', none⟩) L.length uc := hA.old 13 (by decide)
     clear hd hu
     exact runq_val (W' := W) (by simp [execOp, o0, go_sem]) (Below.refl _ _) rfl
    case s13 =>
     intro val ρ W hE hz hd hu hA hx
     have o0 : ρ (.tmp 23) = .int .i64 k := hA.old 23 (by decide)
     clear hd hu
     exact runq_val (W' := W) (by simp [execOp, o0, go_sem]) (Below.refl _ _) rfl
    case s14 =>
     intro val ρ W hE hz hd hu hA hx
     have d12 : ρ (.tmp 141) = .slice (some ⟨mb, mo', none⟩) L.length uc := (hA.dep 12 (by decide) 141 rfl).trans (hd 12 (by decide))
     have d13 : ρ (.tmp 142) = .int .i64 k := (hA.dep 13 (by decide) 142 rfl).trans (hd 13 (by decide))
     clear hd hu
     exact runq_val (W' := W) (by simp [execOp, d12, d13, hki, hlt, go_sem]) (Below.refl _ _) rfl
    case s15 =>
     intro val ρ W hE hz hd hu hA hx
     have d14 : ρ (.tmp 143) = .pointer (some ⟨mb, mo' + k * 3, none⟩) := (hA.dep 14 (by decide) 143 rfl).trans (hd 14 (by decide))
     clear hd hu
     exact runq_val (W' := W) (by simp [execOp, d14, go_sem]) (Below.refl _ _) rfl
    case s16 =>
     intro val ρ W hE hz hd hu hA hx
     have d15 : ρ (.tmp 144) = .pointer (some ⟨mb, mo' + k * 3 + 2, none⟩) := (hA.dep 15 (by decide) 144 rfl).trans (hd 15 (by decide))
     have f_m2 := cell_below hE (by simp only; omega) m2
     clear hd hu
     exact runq_val (W' := W) (by simp [execOp, d15, f_m2, go_sem]) (Below.refl _ _) rfl
    case s17 =>
     intro val ρ W hE hz hd hu hA hx
     have d11 : ρ (.tmp 140) = .int .i64 f1 := (hA.dep 11 (by decide) 140 rfl).trans (hd 11 (by decide))
     have d16 : ρ (.tmp 145) = .int .i64 y3 := (hA.dep 16 (by decide) 145 rfl).trans (hd 16 (by decide))
     clear hd hu
     exact runq_val (W' := W) (by simp [execOp, d11, d16, x1, go_sem]) (Below.refl _ _) rfl
    case s18 =>
     intro val ρ W hE hz hd hu hA hx
     have d17 : ρ (.tmp 146) = .bool false := (hA.dep 17 (by decide) 146 rfl).trans (hd 17 (by decide))
     clear hd hu
     exact runq_val (W' := W) (by simp [execOp, d17, go_sem]) (Below.refl _ _) rfl
    case s19 =>
     intro val ρ W hE hz hd hu hA hx
     have o0 : ρ (.tmp 17) = .slice xa L.length xc := hA.old 17 (by decide)
     clear hd hu
     exact runq_val (W' := W) (by simp [execOp, o0, go_sem]) (Below.refl _ _) rfl
    case s20 =>
     intro val ρ W hE hz hd hu hA hx
     have o0 : ρ (.tmp 13) = .slice (some ⟨mb, mo', none⟩) L.length uc := hA.old 13 (by decide)
     clear hd hu
     exact runq_val (W' := W) (by simp [execOp, o0, go_sem]) (Below.refl _ _) rfl
    case s21 =>
     intro val ρ W hE hz hd hu hA hx
     have o0 : ρ (.tmp 23) = .int .i64 k := hA.old 23 (by decide)
     clear hd hu
     exact runq_val (W' := W) (by simp [execOp, o0, go_sem]) (Below.refl _ _) rfl
    case s22 =>
     intro val ρ W hE hz hd hu hA hx
     have d20 : ρ (.tmp 149) = .slice (some ⟨mb, mo', none⟩) L.length uc := (hA.dep 20 (by decide) 149 rfl).trans (hd 20 (by decide))
     have d21 : ρ (.tmp 150) = .int .i64 k := (hA.dep 21 (by decide) 150 rfl).trans (hd 21 (by decide))
     clear hd hu
     exact runq_val (W' := W) (by simp [execOp, d20, d21, hki, hlt, go_sem]) (Below.refl _ _) rfl
    case s23 =>
     intro val ρ W hE hz hd hu hA hx
     have d22 : ρ (.tmp 151) = .pointer (some ⟨mb, mo' + k * 3, none⟩) := (hA.dep 22 (by decide) 151 rfl).trans (hd 22 (by decide))
     clear hd hu
     exact runq_val (W' := W) (by simp [execOp, d22, go_sem]) (Below.refl _ _) rfl
    case s24 =>
     intro val ρ W hE hz hd hu hA hx
     have d23 : ρ (.tmp 152) = .pointer (some ⟨mb, mo' + k * 3, none⟩) := (hA.dep 23 (by decide) 152 rfl).trans (hd 23 (by decide))
     have f_m0 := cell_below hE (by simp only; omega) m0
     clear hd hu
     exact runq_val (W' := W) (by simp [execOp, d23, f_m0, go_sem]) (Below.refl _ _) rfl
    case s25 =>
     intro val ρ W hE hz hd hu hA hx
     have o0 : ρ (.tmp 13) = .slice (some ⟨mb, mo', none⟩) L.length uc := hA.old 13 (by decide)
     clear hd hu
     exact runq_val (W' := W) (by simp [execOp, o0, go_sem]) (Below.refl _ _) rfl
    case s26 =>
     intro val ρ W hE hz hd hu hA hx
     have o0 : ρ (.tmp 23) = .int .i64 k := hA.old 23 (by decide)
     clear hd hu
     exact runq_val (W' := W) (by simp [execOp, o0, go_sem]) (Below.refl _ _) rfl
    case s27 =>
     intro val ρ W hE hz hd hu hA hx
     have d25 : ρ (.tmp 154) = .slice (some ⟨mb, mo', none⟩) L.length uc := (hA.dep 25 (by decide) 154 rfl).trans (hd 25 (by decide))
     have d26 : ρ (.tmp 155) = .int .i64 k := (hA.dep 26 (by decide) 155 rfl).trans (hd 26 (by decide))
     clear hd hu
     exact runq_val (W' := W) (by simp [execOp, d25, d26, hki, hlt, go_sem]) (Below.refl _ _) rfl
    case s28 =>
     intro val ρ W hE hz hd hu hA hx
     have d27 : ρ (.tmp 156) = .pointer (some ⟨mb, mo' + k * 3, none⟩) := (hA.dep 27 (by decide) 156 rfl).trans (hd 27 (by decide))
     clear hd hu
     exact runq_val (W' := W) (by simp [execOp, d27, go_sem]) (Below.refl _ _) rfl
    case s29 =>
     intro val ρ W hE hz hd hu hA hx
     have d28 : ρ (.tmp 157) = .pointer (some ⟨mb, mo' + k * 3 + 1, none⟩) := (hA.dep 28 (by decide) 157 rfl).trans (hd 28 (by decide))
     have f_m1 := cell_below hE (by simp only; omega) m1
     clear hd hu
     exact runq_val (W' := W) (by simp [execOp, d28, f_m1, go_sem]) (Below.refl _ _) rfl
    case s30 =>
     intro val ρ W hE hz hd hu hA hx
     have d19 : ρ (.tmp 148) = .slice xa L.length xc := (hA.dep 19 (by decide) 148 rfl).trans (hd 19 (by decide))
     have d24 : ρ (.tmp 153) = .int .i64 y1 := (hA.dep 24 (by decide) 153 rfl).trans (hd 24 (by decide))
     have d29 : ρ (.tmp 158) = .int .i64 y2 := (hA.dep 29 (by decide) 158 rfl).trans (hd 29 (by decide))
     clear hd hu
     refine runq_call 48 _ _ rfl #[.slice xa L.length xc, .int .i64 y1, .int .i64 y2] (hA.func _) (by simp [d19, d24, d29]) (fun args W => Try.call48 args W) ((T2.out W (HX.out.ext (HE.out.trans' hE))).mono ?_)
     rintro e w' ⟨rfl, hb⟩
     exact ⟨_, rfl, hb, rfl⟩
    case s31 =>
     intro val ρ W hE hz hd hu hA hx
     have o0 : ρ (.tmp 13) = .slice (some ⟨mb, mo', none⟩) L.length uc := hA.old 13 (by decide)
     clear hd hu
     exact runq_val (W' := W) (by simp [execOp, o0, go_sem]) (Below.refl _ _) rfl
    case s32 =>
     intro val ρ W hE hz hd hu hA hx
     have o0 : ρ (.tmp 23) = .int .i64 k := hA.old 23 (by decide)
     clear hd hu
     exact runq_val (W' := W) (by simp [execOp, o0, go_sem]) (Below.refl _ _) rfl
    case s33 =>
     intro val ρ W hE hz hd hu hA hx
     have d31 : ρ (.tmp 160) = .slice (some ⟨mb, mo', none⟩) L.length uc := (hA.dep 31 (by decide) 160 rfl).trans (hd 31 (by decide))
     have d32 : ρ (.tmp 161) = .int .i64 k := (hA.dep 32 (by decide) 161 rfl).trans (hd 32 (by decide))
     clear hd hu
     exact runq_val (W' := W) (by simp [execOp, d31, d32, hki, hlt, go_sem]) (Below.refl _ _) rfl
    case s34 =>
     intro val ρ W hE hz hd hu hA hx
     have d33 : ρ (.tmp 162) = .pointer (some ⟨mb, mo' + k * 3, none⟩) := (hA.dep 33 (by decide) 162 rfl).trans (hd 33 (by decide))
     clear hd hu
     exact runq_val (W' := W) (by simp [execOp, d33, go_sem]) (Below.refl _ _) rfl
    case s35 =>
     intro val ρ W hE hz hd hu hA hx
     have d34 : ρ (.tmp 163) = .pointer (some ⟨mb, mo' + k * 3 + 2, none⟩) := (hA.dep 34 (by decide) 163 rfl).trans (hd 34 (by decide))
     have f_m2 := cell_below hE (by simp only; omega) m2
     clear hd hu
     exact runq_val (W' := W) (by simp [execOp, d34, f_m2, go_sem]) (Below.refl _ _) rfl
    case s36 =>
     intro val ρ W hE hz hd hu hA hx
     have d30 : ρ (.tmp 159) = .int .i64 f2 := (hA.dep 30 (by decide) 159 rfl).trans (hd 30 (by decide))
     have d35 : ρ (.tmp 164) = .int .i64 y3 := (hA.dep 35 (by decide) 164 rfl).trans (hd 35 (by decide))
     clear hd hu
     exact runq_val (W' := W) (by simp [execOp, d30, d35, x2, go_sem]) (Below.refl _ _) rfl
    case s37 =>
     intro val ρ W hE hz hd hu hA hx
     have d18 : ρ (.tmp 147) = .bool false := (hA.dep 18 (by decide) 147 rfl).trans (hd 18 (by decide))
     have d36 : ρ (.tmp 165) = .bool false := (hA.dep 36 (by decide) 165 rfl).trans (hd 36 (by decide))
     clear hd hu
     exact runq_val (W' := W) (by simp [execOp, hA.const, d18, d36, go_sem]) (Below.refl _ _) rfl
    case send =>
     intro val WW hE hzz hv
     obtain ⟨-, -, -, -, -, -, -, -, -, -, -, -, -, -, -, -, -, -, -, -, -, -, -, -, -, -, -, -, -, -, -, -, -, -, -, -, -, r37, -⟩ := hv
     have q37 : val 37 = .bool false := r37
     simp only [putD, q37]
     go_frame
     have HE2 := Lib.hid (HE.out.trans' hE)
     clear hE hzz q37 m0 m1 m2 hzm
     go_wp2_with fail
     go_roundw
     case rel => exact ⟨k + 1, by omega, by go_num, HE2.out⟩
     case measure => simp [intOf]; omega
   ·have hki : ¬ ((k : Int) < (L.length : Int)) := by omega
    obtain ⟨gk, rfl⟩ := grow_of hE
    clear hE
    go_wp2_with fail
    refine (worksL_any _).mono ?_
    rintro e W9 ⟨rfl, hE9⟩
    have HE9 := Lib.hid (HE.out.trans' hE9)
    clear hE9
    go_wp2_with fail
    go_ret
    exact ⟨rfl, HW.out.trans' HE9.out⟩
end Go.Proofs.Ytphajlldghcnnaa
namespace Go.Proofs.Ytphajlldghcnnaa
open Go.RowKit
open Go.ChangeShapes Go.WideShapes Go.ChangeAt in
set_option maxRecDepth 100000 in
theorem poolMore_lifted (os : Os) (started : os.Started) (H : Type) (enc : TypeId × Value → H) :
  ReturnsInHanded {} Try.checked os 11 .any (Rows.poolMoreSpec.pre6 enc Try.prog Try.f11 Rows.poolMoreRow.domain false) (Rows.poolMoreSpec.post enc Try.prog Try.f11 false true false false) := by
 refine returnsInHanded_of_change (C := Try.checked) own started (by kernel_rfl) Try.func11
  (ChangeSpec.witness6 (enc := enc) (C := Try.checked) false ⟨#[], #[.agg #[.int .i64 0, .int .i64 0, .slice none 0 0, .slice none 0 0, .bool false, .int .i64 0, .int .i64 0, .int .i64 0], .slice none 0 0, .int .u32 0, .int .u16 0], []⟩ 8 (by kernel_rfl) (by kernel_rfl) (by kernel_rfl) (by kernel_rfl)) ?_
 intro W base args ds gs before hval0 hW hcnd _
 have hval : ∀ (j : Nat) t v, Try.f11.params[j]? = some t → args[j]? = some v → Value.okWide Try.prog W .any base t v := hval0
 have hW' := hW
 obtain ⟨p, q, hA0, hV, rfl, hfz, hnd⟩ := hW
 have hA : DataW.TrodAll enc Try.prog W 0 (fun _ => true) true Try.f11.params.toList args.toList ds p := hA0
 rw [Try.params11] at hA hval
 obtain ⟨v0, vs0, d0, ds0, p0, q0, hargs, rfl, rfl, h0, r0⟩ := trodAll_cons hA
 obtain ⟨v1, vs1, d1, ds1, p1, q1, rfl, rfl, rfl, h1, r1⟩ := trodAll_cons r0
 obtain ⟨v2, vs2, d2, ds2, p2, q2, rfl, rfl, rfl, h2, r2⟩ := trodAll_cons r1
 obtain ⟨v3, vs3, d3, ds3, p3, q3, rfl, rfl, rfl, h3, r3⟩ := trodAll_cons r2
 obtain ⟨rfl, rfl, rfl⟩ := trodAll_nil r3
 obtain rfl : args = #[v0, v1, v2, v3] := by cases args; simp_all
 obtain ⟨b, ba, bs, bc, bd, rfl, hb⟩ := openBook (hval 0 25 v0 rfl rfl) h0
 obtain ⟨ns, hns, wns⟩ := openNumsK (k := .u8) Try.underlying59 Try.underlying5 (by kernel_rfl) (hval 1 59 v1 rfl rfl) h1
 obtain ⟨m, rfl, rfl, rfl, wm⟩ := open_int Try.underlying75 (hval 2 75 v2 rfl rfl) h2
 obtain ⟨d, rfl, rfl, rfl, wd⟩ := open_int Try.underlying76 (hval 3 76 v3 rfl rfl) h3
 clear hA0 hval0
 refine (poolMore_any b ba bs bc bd v1 ns m d W hb hns wns wm wd).mono fun e W' ⟨he, hb⟩ => ?_
 subst he
 exact ⟨_, rfl, law_post laidOut (tb := 4) (hts_of (by kernel_rfl)) (by kernel_rfl) Try.underlying4 hW' rfl rfl hb⟩
theorem poolMore_holds : Rows.PoolMoreSaid :=
 OpenClaim.holds_of_wide 11 Try.f11 rfl rfl rfl rfl rfl rfl rfl ⟨rfl, rfl, rfl, rfl, rfl⟩ rfl rfl rfl rfl rfl (by kernel_rfl) Try.func11 (by kernel_rfl)
  (of_decide_eq_true (by kernel_rfl)) (by unfold Func.isWrapper; first | (rw [if_pos (by decide +kernel)]; kernel_rfl) | (rw [if_neg (by decide +kernel)]; exact ⟨rfl, rfl⟩))
  (fun os started H enc _ => poolMore_lifted os started H enc)
end Go.Proofs.Ytphajlldghcnnaa
