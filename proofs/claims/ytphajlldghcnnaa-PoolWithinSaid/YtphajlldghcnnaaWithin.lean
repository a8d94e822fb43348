/-
 The statement PoolWithin holds: what is paid for a finish is within the spread; what is kept, or carried over, is what is left; for every valid book of at most 6 runners, and a finish by numbers. No condition.
-/
import Derived.Test.YtphajlldghcnnaaPz
import Derived.Test.YtphajlldghcnnaaPn
import Derived.Test.YtphajlldghcnnaaPm
import Derived.Test.YtphajlldghcnnaaBalanced
import Derived.Test.YtphajlldghcnnaaRoveG
namespace Go.Proofs.Ytphajlldghcnnaa
open Go.RowKit Go.Shelf
set_option maxRecDepth 200000 in
set_option maxHeartbeats 8000000 in
theorem poolWithin_any (b : Bk) (ba sa : Option Addr) (bcap scap : Nat) (nv : Value) (bs : List Int) (w : World) (hv : IsBook w b ba bcap sa scap) (hb : IsRows w 1 nv (bs.map fun n => [.int .u8 n])) (hw8 : ∀ x ∈ bs, (Lit.int .u8 x).wf = true) : Calls Try.prog 15 #[.agg #[.int .i64 b.kd, .int .i64 b.n, .slice ba b.bets.length bcap, .slice sa b.scr.length scap, .bool b.fav, .int .i64 b.car, .int .i64 b.duty, .int .i64 b.step], nv] w fun e w' => e = .returned (.bool true) ∧ Ext w w' := by
 have hbI : IsInts w .u8 nv bs := hb
 obtain ⟨na, ncap, rfl, hn1, hn2, -⟩ := hbI.spec
 have HN := Lib.hid hbI
 have H8 := Lib.hid (u8l hw8)
 clear hb hbI hw8
 have HV := Lib.hid hv
 clear hv
 go_enter Try.func15, Try.ntmps15
 go_upto_region 1 with (fail)
 obtain ⟨W0, hW0⟩ : ∃ W0, W0 = w.alloc (.cells #[.int .i64 b.kd, .int .i64 b.n, .slice ba b.bets.length bcap, .slice sa b.scr.length scap, .bool b.fav, .int .i64 b.car, .int .i64 b.duty, .int .i64 b.step] 25) := ⟨_, rfl⟩
 have hE : Ext w W0 := by rw [hW0]; exact xx
 have k0 : W0.cell? ⟨w.heap.size, 0, none⟩ = some (.int .i64 b.kd) := by rw [hW0]; simp [go_sem]
 have k1 : W0.cell? ⟨w.heap.size, 1, none⟩ = some (.int .i64 b.n) := by rw [hW0]; simp [go_sem]
 have k2 : W0.cell? ⟨w.heap.size, 2, none⟩ = some (.slice ba b.bets.length bcap) := by rw [hW0]; simp [go_sem]
 have k3 : W0.cell? ⟨w.heap.size, 3, none⟩ = some (.slice sa b.scr.length scap) := by rw [hW0]; simp [go_sem]
 have k4 : W0.cell? ⟨w.heap.size, 4, none⟩ = some (.bool b.fav) := by rw [hW0]; simp [go_sem]
 have k5 : W0.cell? ⟨w.heap.size, 5, none⟩ = some (.int .i64 b.car) := by rw [hW0]; simp [go_sem]
 have k6 : W0.cell? ⟨w.heap.size, 6, none⟩ = some (.int .i64 b.duty) := by rw [hW0]; simp [go_sem]
 have k7 : W0.cell? ⟨w.heap.size, 7, none⟩ = some (.int .i64 b.step) := by rw [hW0]; simp [go_sem]
 have hz : w.heap.size < W0.heap.size := World.block_lt_of_cell? _ _ k0
 have HS := Lib.hid (HV.out.ext hE)
 have HW := Lib.hid hE
 rw [← hW0]
 clear hW0 HV
 have HNW := Lib.hid (HN.out.ext hE)
 clear hE HN




 go_wp2_with fail
 refine callW (W0 := W0) (g := ⟨W0, Below.refl _ _⟩) xx (fineL_any b ba sa bcap scap _ (HS.out.ext xx)) fun g1 hgr => ?_
 clear hgr
 cases hfi : fineB b
 ·skip

  go_wp2_with fail
  refine callW (W0 := W0) (g := g1) xx (worksL_any _) fun g2 hgr => ?_
  clear hgr
  go_wp2_with fail
  go_ret
  exact ⟨rfl, HW.out.trans' (grow_below W0 _)⟩

 have H0 := Lib.hid (fine_val hfi)
 have V := Lib.hid (bval_of (fine_val hfi))
 clear hfi
 by_cases hl : 20 < bs.length
 ·have hli : (20 : Int) < (bs.length : Int) := by omega
  have HL := Lib.hid hl
  clear hl

  go_wp2_with fail
  refine callW (W0 := W0) (g := g1) xx (worksL_any _) fun g3 hgr => ?_
  clear hgr
  go_wp2_with fail
  go_ret
  exact ⟨rfl, HW.out.trans' (grow_below W0 _)⟩

 have hli : ¬ ((20 : Int) < (bs.length : Int)) := by omega
 have HL := Lib.hid hl
 clear hl
 by_cases h6 : (6 : Int) < b.n
 ·skip

  go_wp2_with fail
  refine callW (W0 := W0) (g := g1) xx (worksL_any _) fun g4 hgr => ?_
  clear hgr
  go_wp2_with fail
  go_ret
  exact ⟨rfl, HW.out.trans' (grow_below W0 _)⟩

 go_upto_region 3 with (fail)
 obtain ⟨U, hU⟩ : ∃ zz9, zz9 = (grow W0 g1) := ⟨_, rfl⟩
 have eU : Ext W0 U := by rw [hU]; exact xx
 replace k0 := cell_ext eU k0
 replace k1 := cell_ext eU k1
 replace k2 := cell_ext eU k2
 replace k3 := cell_ext eU k3
 replace k4 := cell_ext eU k4
 replace k5 := cell_ext eU k5
 replace k6 := cell_ext eU k6
 replace k7 := cell_ext eU k7
 replace HS := Lib.hid (HS.out.ext eU)
 replace HNW := Lib.hid (HNW.out.ext eU)
 replace HW := Lib.hid (HW.out.trans' eU)
 rw [← hU]
 replace hz := World.block_lt_of_cell? _ _ k0
 clear hU eU
 obtain ⟨I, hI⟩ : ∃ I, I = inP b := ⟨_, rfl⟩
 obtain ⟨K, hK⟩ : ∃ K, K = backP b := ⟨_, rfl⟩
 obtain ⟨D, hD⟩ : ∃ D, D = dutyP b := ⟨_, rfl⟩
 obtain ⟨A, hA⟩ : ∃ A, A = accA b (finL b bs) := ⟨_, rfl⟩
 obtain ⟨N, hN⟩ : ∃ N, N = netP b := ⟨_, rfl⟩
 obtain ⟨Lo, hLo⟩ : ∃ Lo, Lo = sprLo b := ⟨_, rfl⟩
 obtain ⟨Hi, hHi⟩ : ∃ Hi, Hi = sprHi b := ⟨_, rfl⟩
 have fv := finL_val V.out bs
 have FE := Lib.hid (finErr_of H0.out fv)
 have hwi := within_spr H0.out fv
 have hre := acc_rest b (finL b bs)
 rw [← acc_p, ← hA, ← hLo, ← hHi, ← hN] at hwi
 rw [← hA, ← hN] at hre
 have hao := acc_ok fv
 rw [← hA] at hao
 have HAO := Lib.hid hao
 have HA := Lib.hid hA
 have t5 := fun W h => netR_any b ba sa bcap scap W h V.out
 unfold netA at t5
 rw [← hI, ← hK, ← hD, ← hN] at t5
 simp only [accV, accC] at t5
 have TN := Lib.hid t5
 have t6 := fun W h => spread_any b ba sa bcap scap W h
 unfold RetSpr at t6
 rw [← hLo, ← hHi, H0.out] at t6
 have TS := Lib.hid t6
 clear t5 t6 fv hI hK hD hA hN hLo hHi hao
 refine wp_region_rove (U.heap.size) (Nat.le_refl _)
  [sqV (.agg #[.int .i64 b.kd, .int .i64 b.n, .slice ba b.bets.length bcap, .slice sa b.scr.length scap, .bool b.fav, .int .i64 b.car, .int .i64 b.duty, .int .i64 b.step]), sqV (.agg #[.int .i64 b.kd, .int .i64 b.n, .slice ba b.bets.length bcap, .slice sa b.scr.length scap, .bool b.fav, .int .i64 b.car, .int .i64 b.duty, .int .i64 b.step]), sqV (.slice na bs.length ncap), sqW (fun v W => ∃ ps, IsFin W v ps ∧ finsOf ps = finL b bs) (fun _ _ _ ⟨ps, h1, h2⟩ e => ⟨ps, h1.ext e, h2⟩), sqV (.tuple #[.agg #[.int .i64 A.i, .int .i64 A.k, .int .i64 A.d, .int .i64 A.p, .int .i64 A.q, .int .i64 A.o], .int .i64 0]), sqV (.tuple #[.agg #[.int .i64 A.i, .int .i64 A.k, .int .i64 A.d, .int .i64 A.p, .int .i64 A.q, .int .i64 A.o], .int .i64 0]), sqV (.agg #[.int .i64 A.i, .int .i64 A.k, .int .i64 A.d, .int .i64 A.p, .int .i64 A.q, .int .i64 A.o]), sqV (.int .i64 0), sqW (fun v W => ∃ g, v = .pointer (some ⟨g, 0, none⟩) ∧ U.heap.size ≤ g ∧ ∃ a, AccAt W g a) (fun _ _ _ ⟨g, h1, h2, a, h3⟩ e => ⟨g, h1, h2, a, h3.ext e⟩), sqD [8] (fun l v W => ∃ g, l = [.pointer (some ⟨g, 0, none⟩)] ∧ U.heap.size ≤ g ∧ AccAt W g A) (fun _ _ _ _ ⟨g, h1, h2, h3⟩ e => ⟨g, h1, h2, h3.ext e⟩), sqV (.int .i64 0)]
  [true, true, true, false, true, true, true, true, false, false, true] [false, false, false, false, false, false, false, false, false, true, false] [true, true, true, false, true, true, true, true, false, true, true] [true, true, true, true, true, true, true, false, true, true, false]
  (by kernel_rfl) (by kernel_rfl) (by decide +kernel) (by decide +kernel) (by decide +kernel) rfl ⟨rfl, rfl⟩ ⟨?s0, ?s1, ?s2, ?s3, ?s4, ?s5, ?s6, ?s7, ?s8, ?s9, ?s10, trivial⟩ [some 24, some 25, some 26, some 27, some 28, some 23, some 29, some 30, some 5, none, some 6] rfl rfl ?send
 case s0 =>
  intro val ρ W hE hz hd hA hx
  have o0 : ρ (.tmp 2) = .pointer (some ⟨w.heap.size, 0, none⟩) := hA.old 2 (by decide)
  have f_k0 := cell_below hE (by simp only; omega) k0
  have f_k1 := cell_below hE (by simp only; omega) k1
  have f_k2 := cell_below hE (by simp only; omega) k2
  have f_k3 := cell_below hE (by simp only; omega) k3
  have f_k4 := cell_below hE (by simp only; omega) k4
  have f_k5 := cell_below hE (by simp only; omega) k5
  have f_k6 := cell_below hE (by simp only; omega) k6
  have f_k7 := cell_below hE (by simp only; omega) k7
  clear hd
  exact runq_val (W' := W) (by simp [execOp, o0, f_k0, f_k1, f_k2, f_k3, f_k4, f_k5, f_k6, f_k7, go_sem]) (Below.refl _ _) rfl
 case s1 =>
  intro val ρ W hE hz hd hA hx
  have o0 : ρ (.tmp 2) = .pointer (some ⟨w.heap.size, 0, none⟩) := hA.old 2 (by decide)
  have f_k0 := cell_below hE (by simp only; omega) k0
  have f_k1 := cell_below hE (by simp only; omega) k1
  have f_k2 := cell_below hE (by simp only; omega) k2
  have f_k3 := cell_below hE (by simp only; omega) k3
  have f_k4 := cell_below hE (by simp only; omega) k4
  have f_k5 := cell_below hE (by simp only; omega) k5
  have f_k6 := cell_below hE (by simp only; omega) k6
  have f_k7 := cell_below hE (by simp only; omega) k7
  clear hd
  exact runq_val (W' := W) (by simp [execOp, o0, f_k0, f_k1, f_k2, f_k3, f_k4, f_k5, f_k6, f_k7, go_sem]) (Below.refl _ _) rfl
 case s2 =>
  intro val ρ W hE hz hd hA hx
  have o0 : ρ (.tmp 1) = .slice na bs.length ncap := hA.old 1 (by decide)
  clear hd
  exact runq_val (W' := W) (by simp [execOp, o0, go_sem]) (Below.refl _ _) rfl
 case s5 =>
  intro val ρ W hE hz hd hA hx
  have d4 : ρ (.tmp 28) = .tuple #[.agg #[.int .i64 A.i, .int .i64 A.k, .int .i64 A.d, .int .i64 A.p, .int .i64 A.q, .int .i64 A.o], .int .i64 0] := (hA.dep 4 (by decide) 28 rfl).trans (hd 4 (by decide))
  clear hd
  exact runq_val (W' := W) (by simp [execOp, d4, go_sem]) (Below.refl _ _) rfl
 case s6 =>
  intro val ρ W hE hz hd hA hx
  have d5 : ρ (.tmp 23) = .tuple #[.agg #[.int .i64 A.i, .int .i64 A.k, .int .i64 A.d, .int .i64 A.p, .int .i64 A.q, .int .i64 A.o], .int .i64 0] := (hA.dep 5 (by decide) 23 rfl).trans (hd 5 (by decide))
  clear hd
  exact runq_val (W' := W) (by simp [execOp, d5, go_sem]) (Below.refl _ _) rfl
 case s7 =>
  intro val ρ W hE hz hd hA hx
  have d5 : ρ (.tmp 23) = .tuple #[.agg #[.int .i64 A.i, .int .i64 A.k, .int .i64 A.d, .int .i64 A.p, .int .i64 A.q, .int .i64 A.o], .int .i64 0] := (hA.dep 5 (by decide) 23 rfl).trans (hd 5 (by decide))
  clear hd
  exact runq_val (W' := W) (by simp [execOp, d5, go_sem]) (Below.refl _ _) rfl
 case s10 =>
  intro val ρ W hE hz hd hA hx
  have d7 : ρ (.tmp 30) = .int .i64 0 := (hA.dep 7 (by decide) 30 rfl).trans (hd 7 (by decide))
  clear hd
  exact runq_val (W' := W) (by simp [execOp, d7, go_sem]) (Below.refl _ _) rfl
 case s3 =>
  intro val ρ W hE hz hd hA hx
  have d1 : ρ (.tmp 25) = .agg #[.int .i64 b.kd, .int .i64 b.n, .slice ba b.bets.length bcap, .slice sa b.scr.length scap, .bool b.fav, .int .i64 b.car, .int .i64 b.duty, .int .i64 b.step] := (hA.dep 1 (by decide) 25 rfl).trans (hd 1 (by decide))
  have d2 : ρ (.tmp 26) = .slice na bs.length ncap := (hA.dep 2 (by decide) 26 rfl).trans (hd 2 (by decide))
  clear hd
  refine runq_call 42 _ _ rfl #[.agg #[.int .i64 b.kd, .int .i64 b.n, .slice ba b.bets.length bcap, .slice sa b.scr.length scap, .bool b.fav, .int .i64 b.car, .int .i64 b.duty, .int .i64 b.step], .slice na bs.length ncap] (hA.func _) (by simp [d1, d2]) (fun args W => Try.call42 args W) ((finishL_any _ bs b ba sa bcap scap W (HS.out.ext (hx (by decide))) V.out (HNW.out.ext (hx (by decide))) H8.out).mono ?_)
  rintro e w' ⟨v, ps, rfl, hb, hll, hfs⟩
  exact ⟨_, rfl, hb, ps, hll.fin, hfs⟩
 case s4 =>
  intro val ρ W hE hz hd hA hx
  have d0 : ρ (.tmp 24) = .agg #[.int .i64 b.kd, .int .i64 b.n, .slice ba b.bets.length bcap, .slice sa b.scr.length scap, .bool b.fav, .int .i64 b.car, .int .i64 b.duty, .int .i64 b.step] := (hA.dep 0 (by decide) 24 rfl).trans (hd 0 (by decide))
  obtain ⟨ps, hf, hfs⟩ : ∃ ps, IsFin W (val 3) ps ∧ finsOf ps = finL b bs := hd 3 (by decide)
  have d3 : ρ (.tmp 27) = val 3 := hA.dep 3 (by decide) 27 rfl
  clear hd
  refine runq_call 34 _ _ rfl #[.agg #[.int .i64 b.kd, .int .i64 b.n, .slice ba b.bets.length bcap, .slice sa b.scr.length scap, .bool b.fav, .int .i64 b.car, .int .i64 b.duty, .int .i64 b.step], val 3] (hA.func _) (by simp [d0, d3]) (fun args W => Try.call34 args W) ((account_any ps (val 3) b ba sa bcap scap W (HS.out.ext (hx (by decide))) hf).mono ?_)
  rintro e w' ⟨rfl, hb⟩
  exact ⟨_, rfl, hb, by rw [hfs, accE_ok FE.out, ← HA.out]; rfl⟩
 case s8 =>
  intro val ρ W hE hz hd hA hx
  clear hd
  exact runq_val (W' := W.alloc (.cells #[.int .i64 0, .int .i64 0, .int .i64 0, .int .i64 0, .int .i64 0, .int .i64 0] 48)) (by simp [execOp, go_sem]) xx ⟨_, rfl, hE.size, ⟨0, 0, 0, 0, 0, 0⟩, World.alloc_heap_new W _⟩
 case s9 =>
  intro val ρ W hE hz hd hA hx
  obtain ⟨g, e1, hB, a, hacc⟩ : ∃ g, val 8 = .pointer (some ⟨g, 0, none⟩) ∧ U.heap.size ≤ g ∧ ∃ a, AccAt W g a := hd 8 (by decide)
  have dq : ρ (.tmp 5) = .pointer (some ⟨g, 0, none⟩) := (hA.dep 8 (by decide) 5 rfl).trans e1
  have d6 : ρ (.tmp 29) = .agg #[.int .i64 A.i, .int .i64 A.k, .int .i64 A.d, .int .i64 A.p, .int .i64 A.q, .int .i64 A.o] := (hA.dep 6 (by decide) 29 rfl).trans (hd 6 (by decide))
  clear hd
  have c0 := hacc.c0
  have c1 := hacc.c1
  have c2 := hacc.c2
  have c3 := hacc.c3
  have c4 := hacc.c4
  have c5 := hacc.c5
  have cf := fun o => hacc.fr o
  exact runq_skip (W' := (((((W.setCell ⟨g, 0, none⟩ (.int .i64 A.i)).setCell ⟨g, 1, none⟩ (.int .i64 A.k)).setCell ⟨g, 2, none⟩ (.int .i64 A.d)).setCell ⟨g, 3, none⟩ (.int .i64 A.p)).setCell ⟨g, 4, none⟩ (.int .i64 A.q)).setCell ⟨g, 5, none⟩ (.int .i64 A.o)) (by simp [execOp, dq, d6, go_sem, c0, c1, c2, c3, c4, c5, cf]) ((((((((Below.refl _ W).setCell hB _).setCell hB _).setCell hB _).setCell hB _).setCell hB _).setCell hB _)) ⟨g, congrArg (fun x => [x]) e1, hB, acc_set6 hacc _ _ _ _ _ _⟩
 case send =>
  intro val X hE hzz hv
  obtain ⟨-, -, -, -, -, -, -, -, -, r9, r10, -⟩ := hv
  obtain ⟨g, e8, hBg, hacc⟩ : ∃ g, [val 8] = [.pointer (some ⟨g, 0, none⟩)] ∧ U.heap.size ≤ g ∧ AccAt X g A := r9
  have q8 : val 8 = .pointer (some ⟨g, 0, none⟩) := (List.cons.inj e8).1
  have q10 : val 10 = .int .i64 0 := r10
  simp only [putD, q8, q10]
  go_frame
  replace k0 := cell_ext hE k0
  replace k1 := cell_ext hE k1
  replace k2 := cell_ext hE k2
  replace k3 := cell_ext hE k3
  replace k4 := cell_ext hE k4
  replace k5 := cell_ext hE k5
  replace k6 := cell_ext hE k6
  replace k7 := cell_ext hE k7
  replace hz := World.block_lt_of_cell? _ _ k0
  simp only at hz
  have a3 := hacc.c3
  have a4 := hacc.c4
  have a5 := hacc.c5
  have zg := hacc.lt
  replace HS := Lib.hid (HS.out.ext hE)
  replace HW := Lib.hid (HW.out.trans' hE)
  clear hE hzz r10 e8 hBg hacc q8 q10




  go_wp2_with fail
  refine callWR (W0 := X) (g := ⟨X, Below.refl _ _⟩) xx (TS.out _ (HS.out.ext xx)) (fun _ _ h => h.1) fun _ g1 hgr hr => ?_
  obtain ⟨-, rfl⟩ := hr
  clear hgr
  go_upto_region 5 with (fail)
  obtain ⟨Y, hY⟩ : ∃ zz9, zz9 = (grow X g1).alloc (.cells #[.int .i64 Lo, .int .i64 Hi] 56) := ⟨_, rfl⟩
  have l0 : Y.cell? ⟨(grow X g1).heap.size, 0, none⟩ = some (.int .i64 Lo) := by rw [hY]; simp [go_sem]
  have l1 : Y.cell? ⟨(grow X g1).heap.size, 1, none⟩ = some (.int .i64 Hi) := by rw [hY]; simp [go_sem]
  have eY : Ext X Y := by rw [hY]; exact xx
  replace k0 := cell_ext eY k0
  replace k1 := cell_ext eY k1
  replace k2 := cell_ext eY k2
  replace k3 := cell_ext eY k3
  replace k4 := cell_ext eY k4
  replace k5 := cell_ext eY k5
  replace k6 := cell_ext eY k6
  replace k7 := cell_ext eY k7
  replace a3 := cell_ext eY a3
  replace a4 := cell_ext eY a4
  replace a5 := cell_ext eY a5
  replace HS := Lib.hid (HS.out.ext eY)
  replace HW := Lib.hid (HW.out.trans' eY)
  rw [← hY]
  obtain ⟨qr, hqr⟩ : ∃ b, b = (grow X g1).heap.size := ⟨_, rfl⟩
  rw [← hqr] at l0 l1 ⊢
  replace hz := World.block_lt_of_cell? _ _ k0
  replace zg := World.block_lt_of_cell? _ _ a3
  have zqr := World.block_lt_of_cell? _ _ l0
  simp only at zqr
  clear hY eY hqr
  obtain ⟨h1, h2, h3, h4⟩ := hwi
  have hi := HAO.out.i
  have hp := HAO.out.p
  have hq := HAO.out.q
  have ho := HAO.out.o
  have hw1 : IntKind.i64.wrap (A.p + A.q) = A.p + A.q := IntWalk.i64_in _ (by omega)
  have hw2 : IntKind.i64.wrap (A.p + A.q + A.o) = N := by rw [hre]; exact IntWalk.i64_in _ (by omega)
  have hfld : ∀ W, (Instr.field 48 (.agg #[.int .i64 I, .int .i64 K, .int .i64 D, .int .i64 0, .int .i64 0, .int .i64 N]) 5).run Try.prog W = .ok (.int .i64 N) W := fun _ => by kernel_rfl
  refine wp_region_roveG (Y.heap.size) (Nat.le_refl _)
   [sqV (.int .i64 0), sqV (.bool true), sqV (.bool true), sqV (.int .i64 0), sqV (.bool true), sqV (.bool true), sqV (.bool true), sqV (.pointer (some ⟨g, 3, none⟩)), sqV (.int .i64 A.p), sqV (.pointer (some ⟨qr, 0, none⟩)), sqV (.int .i64 Lo), sqV (.bool true), sqV (.bool true), sqV (.bool true), sqV (.pointer (some ⟨g, 3, none⟩)), sqV (.int .i64 A.p), sqV (.pointer (some ⟨qr, 1, none⟩)), sqV (.int .i64 Hi), sqV (.bool true), sqV (.bool true), sqV (.bool true), sqV (.pointer (some ⟨qr, 0, none⟩)), sqV (.int .i64 Lo), sqV (.bool true), sqV (.bool true), sqV (.bool true), sqV (.pointer (some ⟨qr, 1, none⟩)), sqV (.int .i64 Hi), sqV (.agg #[.int .i64 b.kd, .int .i64 b.n, .slice ba b.bets.length bcap, .slice sa b.scr.length scap, .bool b.fav, .int .i64 b.car, .int .i64 b.duty, .int .i64 b.step]), sqV (.agg #[.int .i64 I, .int .i64 K, .int .i64 D, .int .i64 0, .int .i64 0, .int .i64 N]), sqV (.int .i64 N), sqV (.bool true), sqV (.bool true), sqV (.bool true), sqV (.pointer (some ⟨g, 3, none⟩)), sqV (.int .i64 A.p), sqV (.pointer (some ⟨g, 4, none⟩)), sqV (.int .i64 A.q), sqV (.int .i64 (A.p + A.q)), sqV (.pointer (some ⟨g, 5, none⟩)), sqV (.int .i64 A.o), sqV (.int .i64 N), sqV (.agg #[.int .i64 b.kd, .int .i64 b.n, .slice ba b.bets.length bcap, .slice sa b.scr.length scap, .bool b.fav, .int .i64 b.car, .int .i64 b.duty, .int .i64 b.step]), sqV (.agg #[.int .i64 I, .int .i64 K, .int .i64 D, .int .i64 0, .int .i64 0, .int .i64 N]), sqV (.int .i64 N), sqV (.bool true), sqV (.bool true), sqV (.bool true), sqV (.bool true), sqV (.bool true), sqV (.bool true)]
   [true, true, true, true, true, true, true, true, true, true, true, true, true, true, true, true, true, true, true, true, true, true, true, true, true, true, true, true, true, true, true, true, true, true, true, true, true, true, true, true, true, true, true, true, true, true, true, true, true, true, true] [false, false, false, false, false, false, false, false, false, false, false, false, false, false, false, false, false, false, false, false, false, false, false, false, false, false, false, false, false, false, false, false, false, false, false, false, false, false, false, false, false, false, false, false, false, false, false, false, false, false, false] [true, true, true, true, true, true, true, true, true, true, true, true, true, true, true, true, true, true, true, true, true, true, true, true, true, true, true, true, true, true, true, true, true, true, true, true, true, true, true, true, true, true, true, true, true, true, true, true, true, true, true] [true, true, true, true, true, true, true, true, true, true, true, true, true, true, true, true, true, true, true, true, true, true, true, true, true, true, true, true, true, true, true, true, true, true, true, true, true, true, true, true, true, true, true, true, true, true, true, true, true, true, true] [true, true, true, true, true, true, true, true, true, true, true, true, true, true, true, true, true, true, true, true, true, true, true, true, true, true, true, true, true, true, true, true, true, true, true, true, true, true, true, true, true, true, true, true, true, true, true, true, true, true, true] [none, some true, some true, none, some true, some true, some true, none, none, none, none, some true, some true, some true, none, none, none, none, some true, some true, some true, none, none, some true, some true, some true, none, none, none, none, none, some true, some true, some true, none, none, none, none, none, none, none, none, none, none, none, some true, some true, some true, some true, some true, some true]
   (by kernel_rfl) (by kernel_rfl) (by decide +kernel) ⟨fun _ _ _ h => h, ⟨fun _ _ _ h => h, ⟨fun _ _ _ h => h, ⟨fun _ _ _ h => h, ⟨fun _ _ _ h => h, ⟨fun _ _ _ h => h, ⟨fun _ _ _ h => h, ⟨fun _ _ _ h => h, ⟨fun _ _ _ h => h, ⟨fun _ _ _ h => h, ⟨fun _ _ _ h => h, ⟨fun _ _ _ h => h, ⟨fun _ _ _ h => h, ⟨fun _ _ _ h => h, ⟨fun _ _ _ h => h, ⟨fun _ _ _ h => h, ⟨fun _ _ _ h => h, ⟨fun _ _ _ h => h, ⟨fun _ _ _ h => h, ⟨fun _ _ _ h => h, ⟨fun _ _ _ h => h, ⟨fun _ _ _ h => h, ⟨fun _ _ _ h => h, trivial⟩⟩⟩⟩⟩⟩⟩⟩⟩⟩⟩⟩⟩⟩⟩⟩⟩⟩⟩⟩⟩⟩⟩ (by decide +kernel) (by decide +kernel) (by decide +kernel) rfl ⟨rfl, rfl, rfl⟩ ⟨?s0, ?s1, ?s2, ?s3, ?s4, ?s5, ?s6, ?s7, ?s8, ?s9, ?s10, ?s11, ?s12, ?s13, ?s14, ?s15, ?s16, ?s17, ?s18, ?s19, ?s20, ?s21, ?s22, ?s23, ?s24, ?s25, ?s26, ?s27, ?s28, ?s29, ?s30, ?s31, ?s32, ?s33, ?s34, ?s35, ?s36, ?s37, ?s38, ?s39, ?s40, ?s41, ?s42, ?s43, ?s44, ?s45, ?s46, ?s47, ?s48, ?s49, ?s50, trivial⟩ [some 36, some 37, some 38, some 39, some 40, some 41, some 42, some 43, some 44, some 45, some 46, some 47, some 48, some 49, some 50, some 51, some 52, some 53, some 54, some 55, some 56, some 57, some 58, some 59, some 60, some 61, some 62, some 63, some 64, some 65, some 66, some 67, some 68, some 69, some 70, some 71, some 72, some 73, some 74, some 75, some 76, some 77, some 78, some 79, some 80, some 81, some 82, some 83, some 84, some 85, some 4] rfl rfl ?send
  case s0 =>
   intro val ρ W hE hz hd hu hA hx
   have o0 : ρ (.tmp 6) = .int .i64 0 := hA.old 6 (by decide)
   clear hd hu
   exact runq_val (W' := W) (by simp [execOp, o0, go_sem]) (Below.refl _ _) rfl
  case s1 =>
   intro val ρ W hE hz hd hu hA hx
   have d0 : ρ (.tmp 36) = .int .i64 0 := (hA.dep 0 (by decide) 36 rfl).trans (hd 0 (by decide))
   clear hd hu
   exact runq_val (W' := W) (by simp [execOp, hA.const, d0, go_sem]) (Below.refl _ _) rfl
  case s2 =>
   intro val ρ W hE hz hd hu hA hx
   have d1 : ρ (.tmp 37) = .bool true := (hA.dep 1 (by decide) 37 rfl).trans (hd 1 (by decide))
   clear hd hu
   exact runq_val (W' := W) (by simp [execOp, d1, go_sem]) (Below.refl _ _) rfl
  case s3 =>
   intro val ρ W hE hz hd hu hA hx
   have o0 : ρ (.tmp 8) = .int .i64 0 := hA.old 8 (by decide)
   clear hd hu
   exact runq_val (W' := W) (by simp [execOp, o0, go_sem]) (Below.refl _ _) rfl
  case s4 =>
   intro val ρ W hE hz hd hu hA hx
   have d3 : ρ (.tmp 39) = .int .i64 0 := (hA.dep 3 (by decide) 39 rfl).trans (hd 3 (by decide))
   clear hd hu
   exact runq_val (W' := W) (by simp [execOp, hA.const, d3, go_sem]) (Below.refl _ _) rfl
  case s5 =>
   intro val ρ W hE hz hd hu hA hx
   have d2 : ρ (.tmp 38) = .bool true := (hA.dep 2 (by decide) 38 rfl).trans (hd 2 (by decide))
   have d4 : ρ (.tmp 40) = .bool true := (hA.dep 4 (by decide) 40 rfl).trans (hd 4 (by decide))
   clear hd hu
   exact runq_val (W' := W) (by simp [execOp, hA.const, d2, d4, go_sem]) (Below.refl _ _) rfl
  case s6 =>
   intro val ρ W hE hz hd hu hA hx
   have d5 : ρ (.tmp 41) = .bool true := (hA.dep 5 (by decide) 41 rfl).trans (hd 5 (by decide))
   clear hd hu
   exact runq_val (W' := W) (by simp [execOp, d5, go_sem]) (Below.refl _ _) rfl
  case s7 =>
   intro val ρ W hE hz hd hu hA hx
   have o0 : ρ (.tmp 5) = .pointer (some ⟨g, 0, none⟩) := hA.old 5 (by decide)
   clear hd hu
   exact runq_val (W' := W) (by simp [execOp, o0, go_sem]) (Below.refl _ _) rfl
  case s8 =>
   intro val ρ W hE hz hd hu hA hx
   have d7 : ρ (.tmp 43) = .pointer (some ⟨g, 3, none⟩) := (hA.dep 7 (by decide) 43 rfl).trans (hd 7 (by decide))
   have f_a3 := cell_below hE (by simp only; omega) a3
   clear hd hu
   exact runq_val (W' := W) (by simp [execOp, d7, f_a3, go_sem]) (Below.refl _ _) rfl
  case s9 =>
   intro val ρ W hE hz hd hu hA hx
   have o0 : ρ (.tmp 7) = .pointer (some ⟨qr, 0, none⟩) := hA.old 7 (by decide)
   clear hd hu
   exact runq_val (W' := W) (by simp [execOp, o0, go_sem]) (Below.refl _ _) rfl
  case s10 =>
   intro val ρ W hE hz hd hu hA hx
   have d9 : ρ (.tmp 45) = .pointer (some ⟨qr, 0, none⟩) := (hA.dep 9 (by decide) 45 rfl).trans (hd 9 (by decide))
   have f_l0 := cell_below hE (by simp only; omega) l0
   clear hd hu
   exact runq_val (W' := W) (by simp [execOp, d9, f_l0, go_sem]) (Below.refl _ _) rfl
  case s11 =>
   intro val ρ W hE hz hd hu hA hx
   have d8 : ρ (.tmp 44) = .int .i64 A.p := (hA.dep 8 (by decide) 44 rfl).trans (hd 8 (by decide))
   have d10 : ρ (.tmp 46) = .int .i64 Lo := (hA.dep 10 (by decide) 46 rfl).trans (hd 10 (by decide))
   clear hd hu
   exact runq_val (W' := W) (by simp [execOp, d8, d10, h1, go_sem]) (Below.refl _ _) rfl
  case s12 =>
   intro val ρ W hE hz hd hu hA hx
   have d6 : ρ (.tmp 42) = .bool true := (hA.dep 6 (by decide) 42 rfl).trans (hd 6 (by decide))
   have d11 : ρ (.tmp 47) = .bool true := (hA.dep 11 (by decide) 47 rfl).trans (hd 11 (by decide))
   clear hd hu
   exact runq_val (W' := W) (by simp [execOp, hA.const, d6, d11, go_sem]) (Below.refl _ _) rfl
  case s13 =>
   intro val ρ W hE hz hd hu hA hx
   have d12 : ρ (.tmp 48) = .bool true := (hA.dep 12 (by decide) 48 rfl).trans (hd 12 (by decide))
   clear hd hu
   exact runq_val (W' := W) (by simp [execOp, d12, go_sem]) (Below.refl _ _) rfl
  case s14 =>
   intro val ρ W hE hz hd hu hA hx
   have o0 : ρ (.tmp 5) = .pointer (some ⟨g, 0, none⟩) := hA.old 5 (by decide)
   clear hd hu
   exact runq_val (W' := W) (by simp [execOp, o0, go_sem]) (Below.refl _ _) rfl
  case s15 =>
   intro val ρ W hE hz hd hu hA hx
   have d14 : ρ (.tmp 50) = .pointer (some ⟨g, 3, none⟩) := (hA.dep 14 (by decide) 50 rfl).trans (hd 14 (by decide))
   have f_a3 := cell_below hE (by simp only; omega) a3
   clear hd hu
   exact runq_val (W' := W) (by simp [execOp, d14, f_a3, go_sem]) (Below.refl _ _) rfl
  case s16 =>
   intro val ρ W hE hz hd hu hA hx
   have o0 : ρ (.tmp 7) = .pointer (some ⟨qr, 0, none⟩) := hA.old 7 (by decide)
   clear hd hu
   exact runq_val (W' := W) (by simp [execOp, o0, go_sem]) (Below.refl _ _) rfl
  case s17 =>
   intro val ρ W hE hz hd hu hA hx
   have d16 : ρ (.tmp 52) = .pointer (some ⟨qr, 1, none⟩) := (hA.dep 16 (by decide) 52 rfl).trans (hd 16 (by decide))
   have f_l1 := cell_below hE (by simp only; omega) l1
   clear hd hu
   exact runq_val (W' := W) (by simp [execOp, d16, f_l1, go_sem]) (Below.refl _ _) rfl
  case s18 =>
   intro val ρ W hE hz hd hu hA hx
   have d15 : ρ (.tmp 51) = .int .i64 A.p := (hA.dep 15 (by decide) 51 rfl).trans (hd 15 (by decide))
   have d17 : ρ (.tmp 53) = .int .i64 Hi := (hA.dep 17 (by decide) 53 rfl).trans (hd 17 (by decide))
   clear hd hu
   exact runq_val (W' := W) (by simp [execOp, d15, d17, h2, go_sem]) (Below.refl _ _) rfl
  case s19 =>
   intro val ρ W hE hz hd hu hA hx
   have d13 : ρ (.tmp 49) = .bool true := (hA.dep 13 (by decide) 49 rfl).trans (hd 13 (by decide))
   have d18 : ρ (.tmp 54) = .bool true := (hA.dep 18 (by decide) 54 rfl).trans (hd 18 (by decide))
   clear hd hu
   exact runq_val (W' := W) (by simp [execOp, hA.const, d13, d18, go_sem]) (Below.refl _ _) rfl
  case s20 =>
   intro val ρ W hE hz hd hu hA hx
   have d19 : ρ (.tmp 55) = .bool true := (hA.dep 19 (by decide) 55 rfl).trans (hd 19 (by decide))
   clear hd hu
   exact runq_val (W' := W) (by simp [execOp, d19, go_sem]) (Below.refl _ _) rfl
  case s21 =>
   intro val ρ W hE hz hd hu hA hx
   have o0 : ρ (.tmp 7) = .pointer (some ⟨qr, 0, none⟩) := hA.old 7 (by decide)
   clear hd hu
   exact runq_val (W' := W) (by simp [execOp, o0, go_sem]) (Below.refl _ _) rfl
  case s22 =>
   intro val ρ W hE hz hd hu hA hx
   have d21 : ρ (.tmp 57) = .pointer (some ⟨qr, 0, none⟩) := (hA.dep 21 (by decide) 57 rfl).trans (hd 21 (by decide))
   have f_l0 := cell_below hE (by simp only; omega) l0
   clear hd hu
   exact runq_val (W' := W) (by simp [execOp, d21, f_l0, go_sem]) (Below.refl _ _) rfl
  case s23 =>
   intro val ρ W hE hz hd hu hA hx
   have d22 : ρ (.tmp 58) = .int .i64 Lo := (hA.dep 22 (by decide) 58 rfl).trans (hd 22 (by decide))
   clear hd hu
   exact runq_val (W' := W) (by simp [execOp, hA.const, d22, h3, go_sem]) (Below.refl _ _) rfl
  case s24 =>
   intro val ρ W hE hz hd hu hA hx
   have d20 : ρ (.tmp 56) = .bool true := (hA.dep 20 (by decide) 56 rfl).trans (hd 20 (by decide))
   have d23 : ρ (.tmp 59) = .bool true := (hA.dep 23 (by decide) 59 rfl).trans (hd 23 (by decide))
   clear hd hu
   exact runq_val (W' := W) (by simp [execOp, hA.const, d20, d23, go_sem]) (Below.refl _ _) rfl
  case s25 =>
   intro val ρ W hE hz hd hu hA hx
   have d24 : ρ (.tmp 60) = .bool true := (hA.dep 24 (by decide) 60 rfl).trans (hd 24 (by decide))
   clear hd hu
   exact runq_val (W' := W) (by simp [execOp, d24, go_sem]) (Below.refl _ _) rfl
  case s26 =>
   intro val ρ W hE hz hd hu hA hx
   have o0 : ρ (.tmp 7) = .pointer (some ⟨qr, 0, none⟩) := hA.old 7 (by decide)
   clear hd hu
   exact runq_val (W' := W) (by simp [execOp, o0, go_sem]) (Below.refl _ _) rfl
  case s27 =>
   intro val ρ W hE hz hd hu hA hx
   have d26 : ρ (.tmp 62) = .pointer (some ⟨qr, 1, none⟩) := (hA.dep 26 (by decide) 62 rfl).trans (hd 26 (by decide))
   have f_l1 := cell_below hE (by simp only; omega) l1
   clear hd hu
   exact runq_val (W' := W) (by simp [execOp, d26, f_l1, go_sem]) (Below.refl _ _) rfl
  case s28 =>
   intro val ρ W hE hz hd hu hA hx
   have o0 : ρ (.tmp 2) = .pointer (some ⟨w.heap.size, 0, none⟩) := hA.old 2 (by decide)
   have f_k0 := cell_below hE (by simp only; omega) k0
   have f_k1 := cell_below hE (by simp only; omega) k1
   have f_k2 := cell_below hE (by simp only; omega) k2
   have f_k3 := cell_below hE (by simp only; omega) k3
   have f_k4 := cell_below hE (by simp only; omega) k4
   have f_k5 := cell_below hE (by simp only; omega) k5
   have f_k6 := cell_below hE (by simp only; omega) k6
   have f_k7 := cell_below hE (by simp only; omega) k7
   clear hd hu
   exact runq_val (W' := W) (by simp [execOp, o0, f_k0, f_k1, f_k2, f_k3, f_k4, f_k5, f_k6, f_k7, go_sem]) (Below.refl _ _) rfl
  case s29 =>
   intro val ρ W hE hz hd hu hA hx
   have d28 : ρ (.tmp 64) = .agg #[.int .i64 b.kd, .int .i64 b.n, .slice ba b.bets.length bcap, .slice sa b.scr.length scap, .bool b.fav, .int .i64 b.car, .int .i64 b.duty, .int .i64 b.step] := (hA.dep 28 (by decide) 64 rfl).trans (hd 28 (by decide))
   clear hd hu
   refine runq_call 45 _ _ rfl #[.agg #[.int .i64 b.kd, .int .i64 b.n, .slice ba b.bets.length bcap, .slice sa b.scr.length scap, .bool b.fav, .int .i64 b.car, .int .i64 b.duty, .int .i64 b.step]] (hA.func _) (by simp [d28]) (fun args W => Try.call45 args W) ((TN.out W (HS.out.ext hE)).mono ?_)
   rintro e w' ⟨rfl, hb⟩
   exact ⟨_, rfl, hb, rfl⟩
  case s30 =>
   intro val ρ W hE hz hd hu hA hx
   have d29 : ρ (.tmp 65) = .agg #[.int .i64 I, .int .i64 K, .int .i64 D, .int .i64 0, .int .i64 0, .int .i64 N] := (hA.dep 29 (by decide) 65 rfl).trans (hd 29 (by decide))
   clear hd hu
   exact runq_val (W' := W) (by simp [execOp, d29, hfld, go_sem]) (Below.refl _ _) rfl
  case s31 =>
   intro val ρ W hE hz hd hu hA hx
   have d27 : ρ (.tmp 63) = .int .i64 Hi := (hA.dep 27 (by decide) 63 rfl).trans (hd 27 (by decide))
   have d30 : ρ (.tmp 66) = .int .i64 N := (hA.dep 30 (by decide) 66 rfl).trans (hd 30 (by decide))
   clear hd hu
   exact runq_val (W' := W) (by simp [execOp, d27, d30, h4, go_sem]) (Below.refl _ _) rfl
  case s32 =>
   intro val ρ W hE hz hd hu hA hx
   have d25 : ρ (.tmp 61) = .bool true := (hA.dep 25 (by decide) 61 rfl).trans (hd 25 (by decide))
   have d31 : ρ (.tmp 67) = .bool true := (hA.dep 31 (by decide) 67 rfl).trans (hd 31 (by decide))
   clear hd hu
   exact runq_val (W' := W) (by simp [execOp, hA.const, d25, d31, go_sem]) (Below.refl _ _) rfl
  case s33 =>
   intro val ρ W hE hz hd hu hA hx
   have d32 : ρ (.tmp 68) = .bool true := (hA.dep 32 (by decide) 68 rfl).trans (hd 32 (by decide))
   clear hd hu
   exact runq_val (W' := W) (by simp [execOp, d32, go_sem]) (Below.refl _ _) rfl
  case s34 =>
   intro val ρ W hE hz hd hu hA hx
   have o0 : ρ (.tmp 5) = .pointer (some ⟨g, 0, none⟩) := hA.old 5 (by decide)
   clear hd hu
   exact runq_val (W' := W) (by simp [execOp, o0, go_sem]) (Below.refl _ _) rfl
  case s35 =>
   intro val ρ W hE hz hd hu hA hx
   have d34 : ρ (.tmp 70) = .pointer (some ⟨g, 3, none⟩) := (hA.dep 34 (by decide) 70 rfl).trans (hd 34 (by decide))
   have f_a3 := cell_below hE (by simp only; omega) a3
   clear hd hu
   exact runq_val (W' := W) (by simp [execOp, d34, f_a3, go_sem]) (Below.refl _ _) rfl
  case s36 =>
   intro val ρ W hE hz hd hu hA hx
   have o0 : ρ (.tmp 5) = .pointer (some ⟨g, 0, none⟩) := hA.old 5 (by decide)
   clear hd hu
   exact runq_val (W' := W) (by simp [execOp, o0, go_sem]) (Below.refl _ _) rfl
  case s37 =>
   intro val ρ W hE hz hd hu hA hx
   have d36 : ρ (.tmp 72) = .pointer (some ⟨g, 4, none⟩) := (hA.dep 36 (by decide) 72 rfl).trans (hd 36 (by decide))
   have f_a4 := cell_below hE (by simp only; omega) a4
   clear hd hu
   exact runq_val (W' := W) (by simp [execOp, d36, f_a4, go_sem]) (Below.refl _ _) rfl
  case s38 =>
   intro val ρ W hE hz hd hu hA hx
   have d35 : ρ (.tmp 71) = .int .i64 A.p := (hA.dep 35 (by decide) 71 rfl).trans (hd 35 (by decide))
   have d37 : ρ (.tmp 73) = .int .i64 A.q := (hA.dep 37 (by decide) 73 rfl).trans (hd 37 (by decide))
   clear hd hu
   exact runq_val (W' := W) (by simp [execOp, d35, d37, hw1, go_sem]) (Below.refl _ _) rfl
  case s39 =>
   intro val ρ W hE hz hd hu hA hx
   have o0 : ρ (.tmp 5) = .pointer (some ⟨g, 0, none⟩) := hA.old 5 (by decide)
   clear hd hu
   exact runq_val (W' := W) (by simp [execOp, o0, go_sem]) (Below.refl _ _) rfl
  case s40 =>
   intro val ρ W hE hz hd hu hA hx
   have d39 : ρ (.tmp 75) = .pointer (some ⟨g, 5, none⟩) := (hA.dep 39 (by decide) 75 rfl).trans (hd 39 (by decide))
   have f_a5 := cell_below hE (by simp only; omega) a5
   clear hd hu
   exact runq_val (W' := W) (by simp [execOp, d39, f_a5, go_sem]) (Below.refl _ _) rfl
  case s41 =>
   intro val ρ W hE hz hd hu hA hx
   have d38 : ρ (.tmp 74) = .int .i64 (A.p + A.q) := (hA.dep 38 (by decide) 74 rfl).trans (hd 38 (by decide))
   have d40 : ρ (.tmp 76) = .int .i64 A.o := (hA.dep 40 (by decide) 76 rfl).trans (hd 40 (by decide))
   clear hd hu
   exact runq_val (W' := W) (by simp [execOp, d38, d40, hw2, go_sem]) (Below.refl _ _) rfl
  case s42 =>
   intro val ρ W hE hz hd hu hA hx
   have o0 : ρ (.tmp 2) = .pointer (some ⟨w.heap.size, 0, none⟩) := hA.old 2 (by decide)
   have f_k0 := cell_below hE (by simp only; omega) k0
   have f_k1 := cell_below hE (by simp only; omega) k1
   have f_k2 := cell_below hE (by simp only; omega) k2
   have f_k3 := cell_below hE (by simp only; omega) k3
   have f_k4 := cell_below hE (by simp only; omega) k4
   have f_k5 := cell_below hE (by simp only; omega) k5
   have f_k6 := cell_below hE (by simp only; omega) k6
   have f_k7 := cell_below hE (by simp only; omega) k7
   clear hd hu
   exact runq_val (W' := W) (by simp [execOp, o0, f_k0, f_k1, f_k2, f_k3, f_k4, f_k5, f_k6, f_k7, go_sem]) (Below.refl _ _) rfl
  case s43 =>
   intro val ρ W hE hz hd hu hA hx
   have d42 : ρ (.tmp 78) = .agg #[.int .i64 b.kd, .int .i64 b.n, .slice ba b.bets.length bcap, .slice sa b.scr.length scap, .bool b.fav, .int .i64 b.car, .int .i64 b.duty, .int .i64 b.step] := (hA.dep 42 (by decide) 78 rfl).trans (hd 42 (by decide))
   clear hd hu
   refine runq_call 45 _ _ rfl #[.agg #[.int .i64 b.kd, .int .i64 b.n, .slice ba b.bets.length bcap, .slice sa b.scr.length scap, .bool b.fav, .int .i64 b.car, .int .i64 b.duty, .int .i64 b.step]] (hA.func _) (by simp [d42]) (fun args W => Try.call45 args W) ((TN.out W (HS.out.ext hE)).mono ?_)
   rintro e w' ⟨rfl, hb⟩
   exact ⟨_, rfl, hb, rfl⟩
  case s44 =>
   intro val ρ W hE hz hd hu hA hx
   have d43 : ρ (.tmp 79) = .agg #[.int .i64 I, .int .i64 K, .int .i64 D, .int .i64 0, .int .i64 0, .int .i64 N] := (hA.dep 43 (by decide) 79 rfl).trans (hd 43 (by decide))
   clear hd hu
   exact runq_val (W' := W) (by simp [execOp, d43, hfld, go_sem]) (Below.refl _ _) rfl
  case s45 =>
   intro val ρ W hE hz hd hu hA hx
   have d41 : ρ (.tmp 77) = .int .i64 N := (hA.dep 41 (by decide) 77 rfl).trans (hd 41 (by decide))
   have d44 : ρ (.tmp 80) = .int .i64 N := (hA.dep 44 (by decide) 80 rfl).trans (hd 44 (by decide))
   clear hd hu
   exact runq_val (W' := W) (by simp [execOp, d41, d44, go_sem]) (Below.refl _ _) rfl
  case s46 =>
   intro val ρ W hE hz hd hu hA hx
   have d33 : ρ (.tmp 69) = .bool true := (hA.dep 33 (by decide) 69 rfl).trans (hd 33 (by decide))
   have d45 : ρ (.tmp 81) = .bool true := (hA.dep 45 (by decide) 81 rfl).trans (hd 45 (by decide))
   clear hd hu
   exact runq_val (W' := W) (by simp [execOp, hA.const, d33, d45, go_sem]) (Below.refl _ _) rfl
  case s47 =>
   intro val ρ W hE hz hd hu hA hx
   have d46 : ρ (.tmp 82) = .bool true := (hA.dep 46 (by decide) 82 rfl).trans (hd 46 (by decide))
   clear hd hu
   exact runq_val (W' := W) (by simp [execOp, d46, go_sem]) (Below.refl _ _) rfl
  case s49 =>
   intro val ρ W hE hz hd hu hA hx
   have d47 : ρ (.tmp 83) = .bool true := (hA.dep 47 (by decide) 83 rfl).trans (hd 47 (by decide))
   have d48 : ρ (.tmp 84) = .bool true := (hA.dep 48 (by decide) 84 rfl).trans (hd 48 (by decide))
   clear hd hu
   exact runq_val (W' := W) (by simp [execOp, hA.const, d47, d48, go_sem]) (Below.refl _ _) rfl
  case s50 =>
   intro val ρ W hE hz hd hu hA hx
   have d49 : ρ (.tmp 85) = .bool true := (hA.dep 49 (by decide) 85 rfl).trans (hd 49 (by decide))
   clear hd hu
   exact runq_val (W' := W) (by simp [execOp, d49, go_sem]) (Below.refl _ _) rfl
  case s48 =>
   intro val ρ W hE hz hd hu hA hx
   clear hd hu
   refine runq_call 18 _ _ rfl #[] (hA.func _) (by simp) (fun args W => Try.call18 args W) ((worksL_any W).mono ?_)
   rintro e w' ⟨rfl, hb⟩
   exact ⟨_, rfl, hb, rfl⟩
  case send =>
   intro val WW hE hzz hv
   obtain ⟨-, -, -, -, -, -, -, -, -, -, -, -, -, -, -, -, -, -, -, -, -, -, -, -, -, -, -, -, -, -, -, -, -, -, -, -, -, -, -, -, -, -, -, -, -, -, -, -, -, -, r50, -⟩ := hv
   have q50 : val 50 = .bool true := r50
   simp only [putD, q50]
   go_frame
   clear hzz q50
   go_wp2_with fail
   go_ret
   exact ⟨rfl, HW.out.trans' hE⟩
end Go.Proofs.Ytphajlldghcnnaa
namespace Go.Proofs.Ytphajlldghcnnaa
open Go.RowKit
open Go.ChangeShapes Go.WideShapes Go.ChangeAt in
set_option maxRecDepth 100000 in
theorem poolWithin_lifted (os : Os) (started : os.Started) (H : Type) (enc : TypeId × Value → H) :
  ReturnsInHanded {} Try.checked os 15 .any (Rows.poolWithinSpec.pre6 enc Try.prog Try.f15 Rows.poolWithinRow.domain false) (Rows.poolWithinSpec.post enc Try.prog Try.f15 false true false false) := by
 refine returnsInHanded_of_change (C := Try.checked) own started (by kernel_rfl) Try.func15
  (ChangeSpec.witness6 (enc := enc) (C := Try.checked) false ⟨#[], #[.agg #[.int .i64 0, .int .i64 0, .slice none 0 0, .slice none 0 0, .bool false, .int .i64 0, .int .i64 0, .int .i64 0], .slice none 0 0], []⟩ 8 (by kernel_rfl) (by kernel_rfl) (by kernel_rfl) (by kernel_rfl)) ?_
 intro W base args ds gs before hval0 hW hcnd _
 have hval : ∀ (j : Nat) t v, Try.f15.params[j]? = some t → args[j]? = some v → Value.okWide Try.prog W .any base t v := hval0
 have hW' := hW
 obtain ⟨p, q, hA0, hV, rfl, hfz, hnd⟩ := hW
 have hA : DataW.TrodAll enc Try.prog W 0 (fun _ => true) true Try.f15.params.toList args.toList ds p := hA0
 rw [Try.params15] at hA hval
 obtain ⟨v0, vs0, d0, ds0, p0, q0, hargs, rfl, rfl, h0, r0⟩ := trodAll_cons hA
 obtain ⟨v1, vs1, d1, ds1, p1, q1, rfl, rfl, rfl, h1, r1⟩ := trodAll_cons r0
 obtain ⟨rfl, rfl, rfl⟩ := trodAll_nil r1
 obtain rfl : args = #[v0, v1] := by cases args; simp_all
 obtain ⟨b, ba, bs, bc, bd, rfl, hb⟩ := openBook (hval 0 25 v0 rfl rfl) h0
 obtain ⟨ns, hns, wns⟩ := openNumsK (k := .u8) Try.underlying59 Try.underlying5 (by kernel_rfl) (hval 1 59 v1 rfl rfl) h1
 clear hA0 hval0
 refine (poolWithin_any b ba bs bc bd v1 ns W hb hns wns).mono fun e W' ⟨he, hb⟩ => ?_
 subst he
 exact ⟨_, rfl, law_post laidOut (tb := 4) (hts_of (by kernel_rfl)) (by kernel_rfl) Try.underlying4 hW' rfl rfl hb⟩
theorem poolWithin_holds : Rows.PoolWithinSaid :=
 OpenClaim.holds_of_wide 15 Try.f15 rfl rfl rfl rfl rfl rfl rfl ⟨rfl, rfl, rfl, rfl, rfl⟩ rfl rfl rfl rfl rfl (by kernel_rfl) Try.func15 (by kernel_rfl)
  (of_decide_eq_true (by kernel_rfl)) (by unfold Func.isWrapper; first | (rw [if_pos (by decide +kernel)]; kernel_rfl) | (rw [if_neg (by decide +kernel)]; exact ⟨rfl, rfl⟩))
  (fun os started H enc _ => poolWithin_lifted os started H enc)
end Go.Proofs.Ytphajlldghcnnaa
