/-
 The statement PoolShared holds: a dividend is the last on the step's grid that the share bears; for every valid book, and a finish by numbers. No condition.
-/
import Derived.Test.YtphajlldghcnnaaPu
import Derived.Test.YtphajlldghcnnaaPn
import Derived.Test.YtphajlldghcnnaaPm
import Derived.Test.YtphajlldghcnnaaBalanced
import Derived.Test.YtphajlldghcnnaaPx
import Derived.Test.YtphajlldghcnnaaRoveG
namespace Go.Proofs.Ytphajlldghcnnaa
open Go.RowKit Go.Shelf
set_option maxRecDepth 200000 in
set_option maxHeartbeats 8000000 in
theorem poolShared_any (b : Bk) (ba sa : Option Addr) (bcap scap : Nat) (nv : Value) (bs : List Int) (w : World) (hv : IsBook w b ba bcap sa scap) (hb : IsRows w 1 nv (bs.map fun n => [.int .u8 n])) (hw8 : ∀ x ∈ bs, (Lit.int .u8 x).wf = true) : Calls Try.prog 9 #[.agg #[.int .i64 b.kd, .int .i64 b.n, .slice ba b.bets.length bcap, .slice sa b.scr.length scap, .bool b.fav, .int .i64 b.car, .int .i64 b.duty, .int .i64 b.step], nv] w fun e w' => e = .returned (.bool true) ∧ Ext w w' := by
 have hbI : IsInts w .u8 nv bs := hb
 obtain ⟨na, ncap, rfl, hn1, hn2, -⟩ := hbI.spec
 have HN := Lib.hid hbI
 have H8 := Lib.hid (u8l hw8)
 clear hb hbI hw8
 have HV := Lib.hid hv
 clear hv
 go_enter Try.func9, Try.ntmps9
 go_upto_region 1 with (fail)
 obtain ⟨W0, hW0⟩ : ∃ W0, W0 = w.alloc (.cells #[.int .i64 b.kd, .int .i64 b.n, .slice ba b.bets.length bcap, .slice sa b.scr.length scap, .bool b.fav, .int .i64 b.car, .int .i64 b.duty, .int .i64 b.step] 25) := ⟨_, rfl⟩
 have hE : Ext w W0 := by rw [hW0]; exact xx
 have k0 : W0.cell? ⟨w.heap.size, 0, none⟩ = some (.int .i64 b.kd) := by rw [hW0]; simp [go_sem]
 have k1 : W0.cell? ⟨w.heap.size, 1, none⟩ = some (.int .i64 b.n) := by rw [hW0]; simp [go_sem]
 have k2 : W0.cell? ⟨w.heap.size, 2, none⟩ = some (.slice ba b.bets.length bcap) := by rw [hW0]; simp [go_sem]
 have k3 : W0.cell? ⟨w.heap.size, 3, none⟩ = some (.slice sa b.scr.length scap) := by rw [hW0]; simp [go_sem]
 have k4 : W0.cell? ⟨w.heap.size, 4, none⟩ = some (.bool b.fav) := by rw [hW0]; simp [go_sem]
 have k5 : W0.cell? ⟨w.heap.size, 5, none⟩ = some (.int .i64 b.car) := by rw [hW0]; simp [go_sem]
 have k6 : W0.cell? ⟨w.heap.size, 6, none⟩ = some (.int .i64 b.duty) := by rw [hW0]; simp [go_sem]
 have k7 : W0.cell? ⟨w.heap.size, 7, none⟩ = some (.int .i64 b.step) := by rw [hW0]; simp [go_sem]
 have hz : w.heap.size < W0.heap.size := World.block_lt_of_cell? _ _ k0
 have HS := Lib.hid (HV.out.ext hE)
 have HW := Lib.hid hE
 rw [← hW0]
 clear hW0 HV
 have HNW := Lib.hid (HN.out.ext hE)
 clear hE HN




 go_wp2_with fail
 refine callW (W0 := W0) (g := ⟨W0, Below.refl _ _⟩) xx (fineL_any b ba sa bcap scap _ (HS.out.ext xx)) fun g1 hgr => ?_
 clear hgr
 cases hfi : fineB b
 ·skip

  go_wp2_with fail
  refine callW (W0 := W0) (g := g1) xx (worksL_any _) fun g2 hgr => ?_
  clear hgr
  go_wp2_with fail
  go_ret
  exact ⟨rfl, HW.out.trans' (grow_below W0 _)⟩

 have H0 := Lib.hid (fine_val hfi)
 have V := Lib.hid (bval_of (fine_val hfi))
 clear hfi
 by_cases hl : 20 < bs.length
 ·have hli : (20 : Int) < (bs.length : Int) := by omega
  have HL := Lib.hid hl
  clear hl

  go_wp2_with fail
  refine callW (W0 := W0) (g := g1) xx (worksL_any _) fun g3 hgr => ?_
  clear hgr
  go_wp2_with fail
  go_ret
  exact ⟨rfl, HW.out.trans' (grow_below W0 _)⟩

 have hli : ¬ ((20 : Int) < (bs.length : Int)) := by omega
 have HL := Lib.hid hl
 clear hl
 go_wp2_with fail
 refine callWR (W0 := W0) (g := g1) xx (finishL_any _ bs b ba sa bcap scap _ (HS.out.ext xx) V.out (HNW.out.ext xx) H8.out) (fun _ _ ⟨_, _, _, r, _⟩ => r) fun _ g4 hgr hr => ?_
 obtain ⟨fv, ps, rfl, -, hll, hfs⟩ := hr
 clear hgr
 obtain ⟨fa, fcap, rfl, -, -, -⟩ := hll.fin.spec
 have HF := Lib.hid hll.fin
 have FV : Hid (FinV b (finsOf ps)) := Lib.hid (by rw [hfs]; exact finL_val V.out bs)
 have FE := Lib.hid (finErr_of H0.out FV.out)
 clear hll hfs

 obtain ⟨L, hL⟩ : ∃ L, L = winsP b (finsOf ps) := ⟨_, rfl⟩
 obtain ⟨M, hM⟩ : ∃ M, M = divP b (finsOf ps) := ⟨_, rfl⟩
 have t1 := fun w h1 h2 => winnersP_any ps (.slice fa ps.length fcap) b ba sa bcap scap w h1 h2
 have t2 := fun w h1 h2 h3 => paidL_any ps (.slice fa ps.length fcap) b ba sa bcap scap w h1 h2 h3
 have hwl : winL b (finsOf ps) = L := by unfold winL; rw [if_pos FE.out, hL]
 unfold RetWin at t1
 unfold RetPaid at t2
 rw [hwl, FE.out] at t1
 rw [← hM] at t2
 have T1 := Lib.hid t1
 have T2 := Lib.hid t2
 have HL2 := Lib.hid hL
 have HM := Lib.hid hM
 have h64 : L.length ≤ 64 := by rw [hL]; exact winsP_le FV.out
 have h64m : M.length ≤ 64 := by rw [hM]; exact divP_le FV.out
 clear t1 t2 hL hM hwl
 go_wp2_with fail
 refine callWR (W0 := W0) (g := g4) xx (T1.out _ (HS.out.ext xx) (HF.out.ext xx)) (fun _ _ h => h.1) fun _ g5 hgr hr => ?_
 obtain ⟨-, u, rfl, hU⟩ := hr
 replace HF := Lib.hid (HF.out.ext hgr)
 clear hgr
 obtain ⟨ua, uc, rfl, hu1, hu2, -⟩ := two_cells hU
 have HU := Lib.hid hU
 clear hU

 go_wp2_with fail
 refine callWR (W0 := W0) (g := g5) xx (T2.out _ (HS.out.ext xx) (HF.out.ext xx) FE.out) (fun _ _ h => h.1) fun _ g6 hgr hr => ?_
 obtain ⟨-, v, rfl, hP⟩ := hr
 replace HF := Lib.hid (HF.out.ext hgr)
 replace HU := Lib.hid (HU.out.ext hgr)
 clear hgr
 obtain ⟨va, vc, rfl, hv1, hv2, -⟩ := dvd_cells hP
 have HP := Lib.hid hP
 clear hP

 obtain ⟨I, hI⟩ : ∃ I, I = inP b := ⟨_, rfl⟩
 obtain ⟨K, hK⟩ : ∃ K, K = backP b := ⟨_, rfl⟩
 obtain ⟨D, hD⟩ : ∃ D, D = dutyP b := ⟨_, rfl⟩
 by_cases hm : M = []
 ·obtain ⟨N, hN⟩ : ∃ N, N = netP b := ⟨_, rfl⟩
  have hNA : netA b = ⟨I, K, D, 0, 0, N⟩ := by rw [hI, hK, hD, hN]; rfl
  have HAA : Hid (accA b (finsOf ps) = ⟨I, K, D, 0, 0, N⟩) := Lib.hid (by unfold accA; rw [if_pos (by rw [← HM.out]; exact hm), hNA])
  have t5 := fun W h => netR_any b ba sa bcap scap W h V.out
  rw [hNA] at t5
  simp only [accV, accC] at t5
  have TN := Lib.hid t5
  have hmz : (M.length : Int) = 0 := by rw [hm]; rfl
  have hmb : ((M.length : Int) == 0) = true := by rw [beq_iff_eq]; exact hmz
  clear t5 hNA hI hK hD hN hm hmz

  have t1 := fun w h1 h2 => account_any ps (.slice fa ps.length fcap) b ba sa bcap scap w h1 h2
  rw [accE_ok FE.out, HAA.out] at t1
  simp only [accV, accC] at t1
  have T3 := Lib.hid t1
  clear t1
  go_wp2_with fail
  refine callW (W0 := W0) (g := g6) xx (T3.out _ (HS.out.ext xx) (HF.out.ext xx)) fun g7 hgr => ?_
  replace HF := Lib.hid (HF.out.ext hgr)
  replace HU := Lib.hid (HU.out.ext hgr)
  replace HP := Lib.hid (HP.out.ext hgr)
  clear hgr
  go_upto_region 7 with (fail)
  obtain ⟨U, hU⟩ : ∃ zz9, zz9 = (grow W0 g7).alloc (.cells #[.int .i64 I, .int .i64 K, .int .i64 D, .int .i64 0, .int .i64 0, .int .i64 N] 48) := ⟨_, rfl⟩
  have a0 : U.cell? ⟨(grow W0 g7).heap.size, 0, none⟩ = some (.int .i64 I) := by rw [hU]; simp [go_sem]
  have a1 : U.cell? ⟨(grow W0 g7).heap.size, 1, none⟩ = some (.int .i64 K) := by rw [hU]; simp [go_sem]
  have a2 : U.cell? ⟨(grow W0 g7).heap.size, 2, none⟩ = some (.int .i64 D) := by rw [hU]; simp [go_sem]
  have a3 : U.cell? ⟨(grow W0 g7).heap.size, 3, none⟩ = some (.int .i64 0) := by rw [hU]; simp [go_sem]
  have a4 : U.cell? ⟨(grow W0 g7).heap.size, 4, none⟩ = some (.int .i64 0) := by rw [hU]; simp [go_sem]
  have a5 : U.cell? ⟨(grow W0 g7).heap.size, 5, none⟩ = some (.int .i64 N) := by rw [hU]; simp [go_sem]
  have eU : Ext W0 U := by rw [hU]; exact xx
  have eUc : Ext (grow W0 g7) U := by rw [hU]; exact xx
  replace k0 := cell_ext eU k0
  replace k1 := cell_ext eU k1
  replace k2 := cell_ext eU k2
  replace k3 := cell_ext eU k3
  replace k4 := cell_ext eU k4
  replace k5 := cell_ext eU k5
  replace k6 := cell_ext eU k6
  replace k7 := cell_ext eU k7
  replace HS := Lib.hid (HS.out.ext eU)
  replace HNW := Lib.hid (HNW.out.ext eU)
  replace HF := Lib.hid (HF.out.ext eUc)
  replace HU := Lib.hid (HU.out.ext eUc)
  replace HP := Lib.hid (HP.out.ext eUc)
  replace HW := Lib.hid (HW.out.trans' eU)
  rw [← hU]
  obtain ⟨qa, hqa⟩ : ∃ b, b = (grow W0 g7).heap.size := ⟨_, rfl⟩
  rw [← hqa] at a0 a1 a2 a3 a4 a5 ⊢
  replace hz := World.block_lt_of_cell? _ _ k0
  have zqa := World.block_lt_of_cell? _ _ a0
  simp only at zqa
  clear hU eU eUc hqa
  have hfld : ∀ W, (Instr.field 48 (.agg #[.int .i64 I, .int .i64 K, .int .i64 D, .int .i64 0, .int .i64 0, .int .i64 N]) 5).run Try.prog W = .ok (.int .i64 N) W := fun _ => by kernel_rfl
  go_upto_region 10 with (fail)
  refine wp_region_roveG (U.heap.size) (Nat.le_refl _)
   [sqV (.pointer (some ⟨qa, 3, none⟩)), sqV (.int .i64 0), sqV (.bool true), sqV (.bool true), sqV (.pointer (some ⟨qa, 4, none⟩)), sqV (.int .i64 0), sqV (.bool true), sqV (.bool true), sqV (.bool true), sqV (.pointer (some ⟨qa, 5, none⟩)), sqV (.int .i64 N), sqV (.agg #[.int .i64 b.kd, .int .i64 b.n, .slice ba b.bets.length bcap, .slice sa b.scr.length scap, .bool b.fav, .int .i64 b.car, .int .i64 b.duty, .int .i64 b.step]), sqV (.agg #[.int .i64 I, .int .i64 K, .int .i64 D, .int .i64 0, .int .i64 0, .int .i64 N]), sqV (.int .i64 N), sqV (.bool true), sqV (.bool true), sqV (.bool true), sqV (.bool true), sqV (.bool true), sqV (.bool true)]
   [true, true, true, true, true, true, true, true, true, true, true, true, true, true, true, true, true, true, true, true] [false, false, false, false, false, false, false, false, false, false, false, false, false, false, false, false, false, false, false, false] [true, true, true, true, true, true, true, true, true, true, true, true, true, true, true, true, true, true, true, true] [true, true, true, true, true, true, true, true, true, true, true, true, true, true, true, true, true, true, true, true] [true, true, true, true, true, true, true, true, true, true, true, true, true, true, true, true, true, true, true, true] [none, none, some true, some true, none, none, some true, some true, some true, none, none, none, none, none, some true, some true, some true, some true, some true, some true]
   (by kernel_rfl) (by kernel_rfl) (by decide +kernel) ⟨fun _ _ _ h => h, ⟨fun _ _ _ h => h, ⟨fun _ _ _ h => h, ⟨fun _ _ _ h => h, ⟨fun _ _ _ h => h, ⟨fun _ _ _ h => h, ⟨fun _ _ _ h => h, ⟨fun _ _ _ h => h, ⟨fun _ _ _ h => h, ⟨fun _ _ _ h => h, ⟨fun _ _ _ h => h, trivial⟩⟩⟩⟩⟩⟩⟩⟩⟩⟩⟩ (by decide +kernel) (by decide +kernel) (by decide +kernel) rfl ⟨rfl, rfl, rfl⟩ ⟨?s0, ?s1, ?s2, ?s3, ?s4, ?s5, ?s6, ?s7, ?s8, ?s9, ?s10, ?s11, ?s12, ?s13, ?s14, ?s15, ?s16, ?s17, ?s18, ?s19, trivial⟩ [some 61, some 62, some 63, some 64, some 65, some 66, some 67, some 68, some 69, some 70, some 71, some 72, some 73, some 74, some 75, some 76, some 77, some 78, some 79, some 4] rfl rfl ?send
  case s0 =>
   intro val ρ W hE hz hd hu hA hx
   have o0 : ρ (.tmp 10) = .pointer (some ⟨qa, 0, none⟩) := hA.old 10 (by decide)
   clear hd hu
   exact runq_val (W' := W) (by simp [execOp, o0, go_sem]) (Below.refl _ _) rfl
  case s1 =>
   intro val ρ W hE hz hd hu hA hx
   have d0 : ρ (.tmp 61) = .pointer (some ⟨qa, 3, none⟩) := (hA.dep 0 (by decide) 61 rfl).trans (hd 0 (by decide))
   have f_a3 := cell_below hE (by simp only; omega) a3
   clear hd hu
   exact runq_val (W' := W) (by simp [execOp, d0, f_a3, go_sem]) (Below.refl _ _) rfl
  case s2 =>
   intro val ρ W hE hz hd hu hA hx
   have d1 : ρ (.tmp 62) = .int .i64 0 := (hA.dep 1 (by decide) 62 rfl).trans (hd 1 (by decide))
   clear hd hu
   exact runq_val (W' := W) (by simp [execOp, hA.const, d1, go_sem]) (Below.refl _ _) rfl
  case s3 =>
   intro val ρ W hE hz hd hu hA hx
   have d2 : ρ (.tmp 63) = .bool true := (hA.dep 2 (by decide) 63 rfl).trans (hd 2 (by decide))
   clear hd hu
   exact runq_val (W' := W) (by simp [execOp, d2, go_sem]) (Below.refl _ _) rfl
  case s4 =>
   intro val ρ W hE hz hd hu hA hx
   have o0 : ρ (.tmp 10) = .pointer (some ⟨qa, 0, none⟩) := hA.old 10 (by decide)
   clear hd hu
   exact runq_val (W' := W) (by simp [execOp, o0, go_sem]) (Below.refl _ _) rfl
  case s5 =>
   intro val ρ W hE hz hd hu hA hx
   have d4 : ρ (.tmp 65) = .pointer (some ⟨qa, 4, none⟩) := (hA.dep 4 (by decide) 65 rfl).trans (hd 4 (by decide))
   have f_a4 := cell_below hE (by simp only; omega) a4
   clear hd hu
   exact runq_val (W' := W) (by simp [execOp, d4, f_a4, go_sem]) (Below.refl _ _) rfl
  case s6 =>
   intro val ρ W hE hz hd hu hA hx
   have d5 : ρ (.tmp 66) = .int .i64 0 := (hA.dep 5 (by decide) 66 rfl).trans (hd 5 (by decide))
   clear hd hu
   exact runq_val (W' := W) (by simp [execOp, hA.const, d5, go_sem]) (Below.refl _ _) rfl
  case s7 =>
   intro val ρ W hE hz hd hu hA hx
   have d3 : ρ (.tmp 64) = .bool true := (hA.dep 3 (by decide) 64 rfl).trans (hd 3 (by decide))
   have d6 : ρ (.tmp 67) = .bool true := (hA.dep 6 (by decide) 67 rfl).trans (hd 6 (by decide))
   clear hd hu
   exact runq_val (W' := W) (by simp [execOp, hA.const, d3, d6, go_sem]) (Below.refl _ _) rfl
  case s8 =>
   intro val ρ W hE hz hd hu hA hx
   have d7 : ρ (.tmp 68) = .bool true := (hA.dep 7 (by decide) 68 rfl).trans (hd 7 (by decide))
   clear hd hu
   exact runq_val (W' := W) (by simp [execOp, d7, go_sem]) (Below.refl _ _) rfl
  case s9 =>
   intro val ρ W hE hz hd hu hA hx
   have o0 : ρ (.tmp 10) = .pointer (some ⟨qa, 0, none⟩) := hA.old 10 (by decide)
   clear hd hu
   exact runq_val (W' := W) (by simp [execOp, o0, go_sem]) (Below.refl _ _) rfl
  case s10 =>
   intro val ρ W hE hz hd hu hA hx
   have d9 : ρ (.tmp 70) = .pointer (some ⟨qa, 5, none⟩) := (hA.dep 9 (by decide) 70 rfl).trans (hd 9 (by decide))
   have f_a5 := cell_below hE (by simp only; omega) a5
   clear hd hu
   exact runq_val (W' := W) (by simp [execOp, d9, f_a5, go_sem]) (Below.refl _ _) rfl
  case s11 =>
   intro val ρ W hE hz hd hu hA hx
   have o0 : ρ (.tmp 2) = .pointer (some ⟨w.heap.size, 0, none⟩) := hA.old 2 (by decide)
   have f_k0 := cell_below hE (by simp only; omega) k0
   have f_k1 := cell_below hE (by simp only; omega) k1
   have f_k2 := cell_below hE (by simp only; omega) k2
   have f_k3 := cell_below hE (by simp only; omega) k3
   have f_k4 := cell_below hE (by simp only; omega) k4
   have f_k5 := cell_below hE (by simp only; omega) k5
   have f_k6 := cell_below hE (by simp only; omega) k6
   have f_k7 := cell_below hE (by simp only; omega) k7
   clear hd hu
   exact runq_val (W' := W) (by simp [execOp, o0, f_k0, f_k1, f_k2, f_k3, f_k4, f_k5, f_k6, f_k7, go_sem]) (Below.refl _ _) rfl
  case s12 =>
   intro val ρ W hE hz hd hu hA hx
   have d11 : ρ (.tmp 72) = .agg #[.int .i64 b.kd, .int .i64 b.n, .slice ba b.bets.length bcap, .slice sa b.scr.length scap, .bool b.fav, .int .i64 b.car, .int .i64 b.duty, .int .i64 b.step] := (hA.dep 11 (by decide) 72 rfl).trans (hd 11 (by decide))
   clear hd hu
   refine runq_call 45 _ _ rfl #[.agg #[.int .i64 b.kd, .int .i64 b.n, .slice ba b.bets.length bcap, .slice sa b.scr.length scap, .bool b.fav, .int .i64 b.car, .int .i64 b.duty, .int .i64 b.step]] (hA.func _) (by simp [d11]) (fun args W => Try.call45 args W) ((TN.out W (HS.out.ext hE)).mono ?_)
   rintro e w' ⟨rfl, hb⟩
   exact ⟨_, rfl, hb, rfl⟩
  case s13 =>
   intro val ρ W hE hz hd hu hA hx
   have d12 : ρ (.tmp 73) = .agg #[.int .i64 I, .int .i64 K, .int .i64 D, .int .i64 0, .int .i64 0, .int .i64 N] := (hA.dep 12 (by decide) 73 rfl).trans (hd 12 (by decide))
   clear hd hu
   exact runq_val (W' := W) (by simp [execOp, d12, hfld, go_sem]) (Below.refl _ _) rfl
  case s14 =>
   intro val ρ W hE hz hd hu hA hx
   have d10 : ρ (.tmp 71) = .int .i64 N := (hA.dep 10 (by decide) 71 rfl).trans (hd 10 (by decide))
   have d13 : ρ (.tmp 74) = .int .i64 N := (hA.dep 13 (by decide) 74 rfl).trans (hd 13 (by decide))
   clear hd hu
   exact runq_val (W' := W) (by simp [execOp, d10, d13, go_sem]) (Below.refl _ _) rfl
  case s15 =>
   intro val ρ W hE hz hd hu hA hx
   have d8 : ρ (.tmp 69) = .bool true := (hA.dep 8 (by decide) 69 rfl).trans (hd 8 (by decide))
   have d14 : ρ (.tmp 75) = .bool true := (hA.dep 14 (by decide) 75 rfl).trans (hd 14 (by decide))
   clear hd hu
   exact runq_val (W' := W) (by simp [execOp, hA.const, d8, d14, go_sem]) (Below.refl _ _) rfl
  case s16 =>
   intro val ρ W hE hz hd hu hA hx
   have d15 : ρ (.tmp 76) = .bool true := (hA.dep 15 (by decide) 76 rfl).trans (hd 15 (by decide))
   clear hd hu
   exact runq_val (W' := W) (by simp [execOp, d15, go_sem]) (Below.refl _ _) rfl
  case s18 =>
   intro val ρ W hE hz hd hu hA hx
   have d16 : ρ (.tmp 77) = .bool true := (hA.dep 16 (by decide) 77 rfl).trans (hd 16 (by decide))
   have d17 : ρ (.tmp 78) = .bool true := (hA.dep 17 (by decide) 78 rfl).trans (hd 17 (by decide))
   clear hd hu
   exact runq_val (W' := W) (by simp [execOp, hA.const, d16, d17, go_sem]) (Below.refl _ _) rfl
  case s19 =>
   intro val ρ W hE hz hd hu hA hx
   have d18 : ρ (.tmp 79) = .bool true := (hA.dep 18 (by decide) 79 rfl).trans (hd 18 (by decide))
   clear hd hu
   exact runq_val (W' := W) (by simp [execOp, d18, go_sem]) (Below.refl _ _) rfl
  case s17 =>
   intro val ρ W hE hz hd hu hA hx
   clear hd hu
   refine runq_call 18 _ _ rfl #[] (hA.func _) (by simp) (fun args W => Try.call18 args W) ((worksL_any W).mono ?_)
   rintro e w' ⟨rfl, hb⟩
   exact ⟨_, rfl, hb, rfl⟩
  case send =>
   intro val WW hE hzz hv
   obtain ⟨-, -, -, -, -, -, -, -, -, -, -, -, -, -, -, -, -, -, -, r19, -⟩ := hv
   have q19 : val 19 = .bool true := r19
   simp only [putD, q19]
   go_frame
   clear hzz r19 q19
   go_wp2_with fail
   go_ret
   exact ⟨rfl, HW.out.trans' hE⟩

 have hmb : ((M.length : Int) == 0) = false := by
  rw [beq_eq_false_iff_ne]
  have := List.length_pos_iff.2 hm
  omega
 obtain ⟨P, hPP⟩ : ∃ P, P = paidTo b M := ⟨_, rfl⟩
 obtain ⟨Q, hQ⟩ : ∃ Q, Q = netP b - P := ⟨_, rfl⟩
 have HAA : Hid (accA b (finsOf ps) = ⟨I, K, D, P, Q, 0⟩) := Lib.hid (by
  unfold accA
  rw [if_neg (by rw [← HM.out]; exact hm), hI, hK, hD, hQ, hPP, HM.out]
  rfl)
 have HPP := Lib.hid hPP
 have hbl : ¬ (backedL b (finsOf ps)).length = 0 := by
  rw [← divP_len, ← HM.out]
  exact fun h => hm (List.eq_nil_of_length_eq_zero h)
 obtain ⟨S, hS⟩ : ∃ S, S = shareP b (finsOf ps) := ⟨_, rfl⟩
 have t5 := fun w h1 h2 => shareR_any ps (.slice fa ps.length fcap) b ba sa bcap scap w h1 h2 FV.out
 unfold shareQ at t5
 rw [if_neg hbl, ← hS] at t5
 have T5 := Lib.hid t5
 have HSH := Lib.hid hS
 clear t5 hI hK hD hQ hPP hm hbl hS
 have t1 := fun w h1 h2 => account_any ps (.slice fa ps.length fcap) b ba sa bcap scap w h1 h2
 rw [accE_ok FE.out, HAA.out] at t1
 simp only [accV, accC] at t1
 have T3 := Lib.hid t1
 clear t1
 go_wp2_with fail
 refine callW (W0 := W0) (g := g6) xx (T3.out _ (HS.out.ext xx) (HF.out.ext xx)) fun g8 hgr => ?_
 replace HF := Lib.hid (HF.out.ext hgr)
 replace HU := Lib.hid (HU.out.ext hgr)
 replace HP := Lib.hid (HP.out.ext hgr)
 clear hgr
 go_upto_region 7 with (fail)
 obtain ⟨U, hU⟩ : ∃ zz9, zz9 = (grow W0 g8).alloc (.cells #[.int .i64 I, .int .i64 K, .int .i64 D, .int .i64 P, .int .i64 Q, .int .i64 0] 48) := ⟨_, rfl⟩
 have a0 : U.cell? ⟨(grow W0 g8).heap.size, 0, none⟩ = some (.int .i64 I) := by rw [hU]; simp [go_sem]
 have a1 : U.cell? ⟨(grow W0 g8).heap.size, 1, none⟩ = some (.int .i64 K) := by rw [hU]; simp [go_sem]
 have a2 : U.cell? ⟨(grow W0 g8).heap.size, 2, none⟩ = some (.int .i64 D) := by rw [hU]; simp [go_sem]
 have a3 : U.cell? ⟨(grow W0 g8).heap.size, 3, none⟩ = some (.int .i64 P) := by rw [hU]; simp [go_sem]
 have a4 : U.cell? ⟨(grow W0 g8).heap.size, 4, none⟩ = some (.int .i64 Q) := by rw [hU]; simp [go_sem]
 have a5 : U.cell? ⟨(grow W0 g8).heap.size, 5, none⟩ = some (.int .i64 0) := by rw [hU]; simp [go_sem]
 have eU : Ext W0 U := by rw [hU]; exact xx
 have eUc : Ext (grow W0 g8) U := by rw [hU]; exact xx
 replace k0 := cell_ext eU k0
 replace k1 := cell_ext eU k1
 replace k2 := cell_ext eU k2
 replace k3 := cell_ext eU k3
 replace k4 := cell_ext eU k4
 replace k5 := cell_ext eU k5
 replace k6 := cell_ext eU k6
 replace k7 := cell_ext eU k7
 replace HS := Lib.hid (HS.out.ext eU)
 replace HNW := Lib.hid (HNW.out.ext eU)
 replace HF := Lib.hid (HF.out.ext eUc)
 replace HU := Lib.hid (HU.out.ext eUc)
 replace HP := Lib.hid (HP.out.ext eUc)
 replace HW := Lib.hid (HW.out.trans' eU)
 rw [← hU]
 obtain ⟨qa, hqa⟩ : ∃ b, b = (grow W0 g8).heap.size := ⟨_, rfl⟩
 rw [← hqa] at a0 a1 a2 a3 a4 a5 ⊢
 replace hz := World.block_lt_of_cell? _ _ k0
 have zqa := World.block_lt_of_cell? _ _ a0
 simp only at zqa
 clear hU eU eUc hqa
 go_wp2_with fail
 refine callW (W0 := U) (g := ⟨U, Below.refl _ _⟩) xx (T5.out _ (HS.out.ext xx) (HF.out.ext xx)) fun g9 hgr => ?_
 clear hgr
 go_upto_region 12 with (fail)
 obtain ⟨X, hX⟩ : ∃ zz9, zz9 = (grow U g9) := ⟨_, rfl⟩
 have eX : Ext U X := by rw [hX]; exact xx
 replace k0 := cell_ext eX k0
 replace k1 := cell_ext eX k1
 replace k2 := cell_ext eX k2
 replace k3 := cell_ext eX k3
 replace k4 := cell_ext eX k4
 replace k5 := cell_ext eX k5
 replace k6 := cell_ext eX k6
 replace k7 := cell_ext eX k7
 replace a0 := cell_ext eX a0
 replace a1 := cell_ext eX a1
 replace a2 := cell_ext eX a2
 replace a3 := cell_ext eX a3
 replace a4 := cell_ext eX a4
 replace a5 := cell_ext eX a5
 replace HS := Lib.hid (HS.out.ext eX)
 replace HNW := Lib.hid (HNW.out.ext eX)
 replace HF := Lib.hid (HF.out.ext eX)
 replace HU := Lib.hid (HU.out.ext eX)
 replace HP := Lib.hid (HP.out.ext eX)
 replace HW := Lib.hid (HW.out.trans' eX)
 rw [← hX]
 replace hz := World.block_lt_of_cell? _ _ k0
 replace zqa := World.block_lt_of_cell? _ _ a0
 clear hX eX
 have hst := V.out.step
 have HA3 := Lib.hid a3
 have HA5 := Lib.hid a5
 clear a0 a1 a2 a4
 go_wp2_with fail
 go_loopw [13, 14, 15] (fun av sv iv W => ∃ k : Nat, k ≤ L.length ∧ iv = .int .i64 k ∧ av = .int .i64 (cntB b L k : Int) ∧ sv = .int .i64 (paidTo b (M.take (cntB b L k))) ∧ Ext X W) (fun _ _ iv _ => L.length - (intOf iv).toNat)
 case atStart => exact ⟨0, by omega, rfl, rfl, by simp [cntB, paidTo], Below.refl _ _⟩
 case round =>
  obtain ⟨k, hk, rfl, rfl, rfl, hE⟩ := hrel
  have HE := Lib.hid hE
  replace k0 := cell_ext hE k0
  replace k1 := cell_ext hE k1
  replace k2 := cell_ext hE k2
  replace k3 := cell_ext hE k3
  replace k4 := cell_ext hE k4
  replace k5 := cell_ext hE k5
  replace k6 := cell_ext hE k6
  replace k7 := cell_ext hE k7
  replace hz := World.block_lt_of_cell? _ _ k0
  simp only at hz
  have hcl := cntB_le b L k
  have hbp := paidTo_bd FV.out (cntB b L k)
  rw [← HM.out] at hbp
  by_cases hlt : k < L.length
  ·have hki : (k : Int) < (L.length : Int) := by omega
   obtain ⟨_, _, e9, -, -, hcc⟩ := two_cells HU.out
   cases e9
   obtain ⟨lb, lo, hsa9, hcd⟩ := hcc k hlt
   subst hsa9
   obtain ⟨c0, c1, hzl⟩ := hcd wr hE
   have hsucc := cntB_succ b hlt
   have hub := units_bd' V.out L[k]
   have hat : unitsP b L[k] ≠ 0 → M[cntB b L k]? = some (L[k], penceP b (finsOf ps) L[k]) ∧ L[k] ∈ backedL b (finsOf ps) := by
    have e1 := HL2.out
    have e2 := HM.out
    subst e1; subst e2
    exact fun h => ⟨divP_at hlt h, backed_mem hlt h⟩
   obtain ⟨s, hs⟩ : ∃ s, s = L[k] := ⟨_, rfl⟩
   rw [← hs] at c0 c1 hsucc hub hat
   obtain ⟨s1, s2⟩ := s
   simp only at c0 c1
   obtain ⟨n, hn⟩ : ∃ n, n = unitsP b (s1, s2) := ⟨_, rfl⟩
   have t1 := fun W h => unitsR_any (s1, s2) b ba sa bcap scap W h V.out
   rw [← hn] at t1 hsucc hub hat
   simp only at t1
   have T6 := Lib.hid t1
   have HCD := Lib.hid (hcd)
   obtain ⟨A, hA⟩ : ∃ A, A = cntB b L k := ⟨_, rfl⟩
   obtain ⟨R, hR⟩ : ∃ R, R = paidTo b (M.take (cntB b L k)) := ⟨_, rfl⟩
   rw [← hR]
   rw [← hR] at hbp
   rw [← hA] at hsucc hat hcl hbp ⊢
   have HS1 := Lib.hid hs
   have HA := Lib.hid hA
   have HR := Lib.hid hR
   have HN1 := Lib.hid hn
   have HSU := Lib.hid hsucc
   have HAT := Lib.hid hat
   clear t1 hs hn hsucc hat hA hR hcc hcd hE
   go_upto_region 16 with (fail)
   refine wp_region_grow (by kernel_rfl) (by kernel_rfl) ?_
   repeat (first | go_big_quiet_step ((go_at_call 47; exact grow_call (T6.out _ (HS.out.ext (HE.out.trans' (by exact xx)))))) | quiet_step ((go_at_call 47; exact grow_call (T6.out _ (HS.out.ext (HE.out.trans' (by exact xx)))))))
   refine wpQuiet_nil ?_
   rintro _ ⟨g, rfl⟩
   obtain ⟨Y, hY⟩ : ∃ Y, Y = grow wr g := ⟨_, rfl⟩
   rw [← hY]
   have hEY : Ext wr Y := by rw [hY]; exact grow_below wr g
   have HEY := Lib.hid (HE.out.trans' hEY)
   replace k7 := cell_ext hEY k7
   replace c0 := cell_ext hEY c0
   replace c1 := cell_ext hEY c1
   replace hz := World.block_lt_of_cell? _ _ k7
   replace hzl := World.block_lt_of_cell? _ _ c0
   simp only at hz hzl
   clear hY hEY k0 k1 k2 k3 k4 k5 k6
   by_cases hu : n = 0
   ·have hnb : (n == 0) = true := by rw [beq_iff_eq]; exact hu
    have HC : Hid (cntB b L (k + 1) = A) := Lib.hid (by rw [HSU.out, if_neg (fun h => h hu)]; rfl)
    clear hu HSU HAT
    go_wp2_with fail
    go_roundw
    case rel => exact ⟨k + 1, by omega, by go_num, by rw [HC.out], by rw [HC.out, HA.out, HR.out], HEY.out⟩
    case measure => simp [intOf]; omega
   ·have hnb : (n == 0) = false := by rw [beq_eq_false_iff_ne]; exact hu
    have HC : Hid (cntB b L (k + 1) = A + 1) := Lib.hid (by rw [HSU.out, if_pos hu])
    obtain ⟨hMA, hbm⟩ := HAT.out hu
    have hgr := pence_grid FV.out hbm
    have hs64 := (pence_le FV.out hbm).2.2.2.2
    rw [← HSH.out, ← HN1.out] at hgr
    rw [← HSH.out] at hs64
    obtain ⟨d, hd⟩ : ∃ d, d = penceP b (finsOf ps) (s1, s2) := ⟨_, rfl⟩
    rw [← hd] at hMA hgr
    obtain ⟨hal, hME⟩ := List.getElem?_eq_some_iff.1 hMA
    have hpt := paidTo_take (b := b) hal
    rw [hME] at hpt
    simp only at hpt
    rw [← HN1.out, HA.out, ← HR.out, ← HA.out] at hpt
    have hai : (A : Int) < (M.length : Int) := by omega
    obtain ⟨_, _, e9, -, -, hcm⟩ := dvd_cells HP.out
    cases e9
    obtain ⟨mb, mo, hsb9, hcm2⟩ := hcm A hal
    subst hsb9
    obtain ⟨m0, m1, m2, hzm⟩ := hcm2 Y HEY.out
    rw [hME] at m0 m1 m2
    simp only at m0 m1 m2
    obtain ⟨g1, g2, g3, g4, g5⟩ := hgr
    obtain ⟨st, hst2⟩ : ∃ st, st = b.step := ⟨_, rfl⟩
    rw [← hst2] at g3 g5 k7 hst
    have hb1 : (d + st) * n = d * n + st * n := Int.add_mul _ _ _
    have hb2 : st * n ≤ 100 * 100000 := Int.mul_le_mul hst.2 hub.2 hub.1 (by omega)
    have hb3 : 0 ≤ d * n := Int.mul_nonneg g1 hub.1
    obtain ⟨dn, hdn⟩ : ∃ dn, dn = d * n := ⟨_, rfl⟩
    obtain ⟨ds, hds⟩ : ∃ ds, ds = (d + st) * n := ⟨_, rfl⟩
    rw [← hds] at g5 hb1
    rw [← hdn] at g4 hb1 hb3 hpt
    have hw1 : IntKind.i64.wrap (d * n) = dn := by rw [← hdn]; exact IntWalk.i64_in _ (by omega)
    have hw2 : IntKind.i64.wrap (d + st) = d + st := IntWalk.i64_in _ (by omega)
    have hw3 : IntKind.i64.wrap ((d + st) * n) = ds := by rw [← hds]; exact IntWalk.i64_in _ (by omega)
    have hw4 : IntKind.i64.wrap (R + dn) = R + dn := IntWalk.i64_in _ (by omega)
    have x1 : ¬ d < 0 := by omega
    have x2 : ¬ S < d := by omega
    have x3 : ¬ S < dn := by omega
    have x4 : ¬ ds ≤ S := by omega
    have x5 : ¬ st = 0 := by omega
    have x6 : ¬ (M.length : Int) ≤ (A : Int) := by omega
    have x7 : ¬ M.length ≤ A := by omega
    have HPT := Lib.hid hpt
    clear hu HSU HAT hMA hbm hs64 hd hME hpt hcm hcm2 hb1 hb2 hdn hds hst2
    go_wp2_with fail
    go_quiet (fail)
    go_wp2_with fail
    go_roundw
    case rel => exact ⟨k + 1, by omega, by go_num, by rw [HC.out]; go_num, by rw [HC.out, HPT.out], HEY.out.drN _⟩
    case measure => simp [intOf]; omega
  ·have hki : ¬ ((k : Int) < (L.length : Int)) := by omega
   have hke : k = L.length := by omega
   have hce : cntB b L k = M.length := by rw [hke, HL2.out, HM.out]; exact cntB_all _ _
   rw [hce, List.take_length, ← HPP.out]
   replace a3 := cell_ext hE a3
   replace a5 := cell_ext hE a5
   obtain ⟨gk, rfl⟩ := grow_of hE
   clear hE hke hce hcl hbp
   go_wp2_with fail
   refine (worksL_any _).mono ?_
   rintro e W9 ⟨rfl, hE9⟩
   have HE9 := Lib.hid (HE.out.trans' hE9)
   clear hE9
   go_wp2_with fail
   go_ret
   exact ⟨rfl, HW.out.trans' HE9.out⟩
end Go.Proofs.Ytphajlldghcnnaa
namespace Go.Proofs.Ytphajlldghcnnaa
open Go.RowKit
open Go.ChangeShapes Go.WideShapes Go.ChangeAt in
set_option maxRecDepth 100000 in
theorem poolShared_lifted (os : Os) (started : os.Started) (H : Type) (enc : TypeId × Value → H) :
  ReturnsInHanded {} Try.checked os 9 .any (Rows.poolSharedSpec.pre6 enc Try.prog Try.f9 Rows.poolSharedRow.domain false) (Rows.poolSharedSpec.post enc Try.prog Try.f9 false true false false) := by
 refine returnsInHanded_of_change (C := Try.checked) own started (by kernel_rfl) Try.func9
  (ChangeSpec.witness6 (enc := enc) (C := Try.checked) false ⟨#[], #[.agg #[.int .i64 0, .int .i64 0, .slice none 0 0, .slice none 0 0, .bool false, .int .i64 0, .int .i64 0, .int .i64 0], .slice none 0 0], []⟩ 8 (by kernel_rfl) (by kernel_rfl) (by kernel_rfl) (by kernel_rfl)) ?_
 intro W base args ds gs before hval0 hW hcnd _
 have hval : ∀ (j : Nat) t v, Try.f9.params[j]? = some t → args[j]? = some v → Value.okWide Try.prog W .any base t v := hval0
 have hW' := hW
 obtain ⟨p, q, hA0, hV, rfl, hfz, hnd⟩ := hW
 have hA : DataW.TrodAll enc Try.prog W 0 (fun _ => true) true Try.f9.params.toList args.toList ds p := hA0
 rw [Try.params9] at hA hval
 obtain ⟨v0, vs0, d0, ds0, p0, q0, hargs, rfl, rfl, h0, r0⟩ := trodAll_cons hA
 obtain ⟨v1, vs1, d1, ds1, p1, q1, rfl, rfl, rfl, h1, r1⟩ := trodAll_cons r0
 obtain ⟨rfl, rfl, rfl⟩ := trodAll_nil r1
 obtain rfl : args = #[v0, v1] := by cases args; simp_all
 obtain ⟨b, ba, bs, bc, bd, rfl, hb⟩ := openBook (hval 0 25 v0 rfl rfl) h0
 obtain ⟨ns, hns, wns⟩ := openNumsK (k := .u8) Try.underlying59 Try.underlying5 (by kernel_rfl) (hval 1 59 v1 rfl rfl) h1
 clear hA0 hval0
 refine (poolShared_any b ba bs bc bd v1 ns W hb hns wns).mono fun e W' ⟨he, hb⟩ => ?_
 subst he
 exact ⟨_, rfl, law_post laidOut (tb := 4) (hts_of (by kernel_rfl)) (by kernel_rfl) Try.underlying4 hW' rfl rfl hb⟩
theorem poolShared_holds : Rows.PoolSharedSaid :=
 OpenClaim.holds_of_wide 9 Try.f9 rfl rfl rfl rfl rfl rfl rfl ⟨rfl, rfl, rfl, rfl, rfl⟩ rfl rfl rfl rfl rfl (by kernel_rfl) Try.func9 (by kernel_rfl)
  (of_decide_eq_true (by kernel_rfl)) (by unfold Func.isWrapper; first | (rw [if_pos (by decide +kernel)]; kernel_rfl) | (rw [if_neg (by decide +kernel)]; exact ⟨rfl, rfl⟩))
  (fun os started H enc _ => poolShared_lifted os started H enc)
end Go.Proofs.Ytphajlldghcnnaa
