/-
 The statement PoolBalanced holds: the account balances, and what is paid for all bets is Back and Paid; for every valid book, and a finish by numbers. No condition.
-/
import Derived.Test.YtphajlldghcnnaaPu
import Derived.Test.YtphajlldghcnnaaPn
import Derived.Test.YtphajlldghcnnaaPm
namespace Go.Proofs.Ytphajlldghcnnaa
open Go.RowKit Go.Shelf
theorem u8l {bs : List Int} (h : ∀ x ∈ bs, (Lit.int .u8 x).wf = true) : u8L bs := fun x hx => by
 have := bounds_u8 (h x hx)
 omega
theorem fine_val {b : Bk} (h : fineB b = true) : bkErr b = 0 := by
 unfold fineB at h
 rw [Bool.and_eq_true] at h
 exact of_decide_eq_true h.2
theorem payE_at {b : Bk} {fs : List (List Int)} (h : finErr b fs = 0) {k : Nat} (hk : k < b.bets.length) : payE b fs k = .tuple #[.int .i64 (payP b fs b.bets[k]), .int .i64 0] := by
 have h1 : payErr b fs k = 0 := by
  unfold payErr
  rw [if_neg (fun e => e h), if_neg (by omega)]
 have h2 : betAt b k = b.bets[k] := by
  unfold betAt
  rw [Int.toNat_natCast, List.getD_eq_getElem?_getD, List.getElem?_eq_getElem hk]
  rfl
 unfold payE
 rw [h1, if_pos rfl, h2]
set_option maxRecDepth 200000 in
set_option maxHeartbeats 8000000 in
theorem poolBalanced_any (b : Bk) (ba sa : Option Addr) (bcap scap : Nat) (nv : Value) (bs : List Int) (w : World) (hv : IsBook w b ba bcap sa scap) (hb : IsRows w 1 nv (bs.map fun n => [.int .u8 n])) (hw8 : ∀ x ∈ bs, (Lit.int .u8 x).wf = true) : Calls Try.prog 7 #[.agg #[.int .i64 b.kd, .int .i64 b.n, .slice ba b.bets.length bcap, .slice sa b.scr.length scap, .bool b.fav, .int .i64 b.car, .int .i64 b.duty, .int .i64 b.step], nv] w fun e w' => e = .returned (.bool true) ∧ Ext w w' := by
 have hbI : IsInts w .u8 nv bs := hb
 obtain ⟨na, ncap, rfl, hn1, hn2, -⟩ := hbI.spec
 have HN := Lib.hid hbI
 have H8 := Lib.hid (u8l hw8)
 clear hb hbI hw8
 have HV := Lib.hid hv
 clear hv
 go_enter Try.func7, Try.ntmps7
 go_upto_region 1 with (fail)
 obtain ⟨W0, hW0⟩ : ∃ W0, W0 = w.alloc (.cells #[.int .i64 b.kd, .int .i64 b.n, .slice ba b.bets.length bcap, .slice sa b.scr.length scap, .bool b.fav, .int .i64 b.car, .int .i64 b.duty, .int .i64 b.step] 25) := ⟨_, rfl⟩
 have hE : Ext w W0 := by rw [hW0]; exact xx
 have k0 : W0.cell? ⟨w.heap.size, 0, none⟩ = some (.int .i64 b.kd) := by rw [hW0]; simp [go_sem]
 have k1 : W0.cell? ⟨w.heap.size, 1, none⟩ = some (.int .i64 b.n) := by rw [hW0]; simp [go_sem]
 have k2 : W0.cell? ⟨w.heap.size, 2, none⟩ = some (.slice ba b.bets.length bcap) := by rw [hW0]; simp [go_sem]
 have k3 : W0.cell? ⟨w.heap.size, 3, none⟩ = some (.slice sa b.scr.length scap) := by rw [hW0]; simp [go_sem]
 have k4 : W0.cell? ⟨w.heap.size, 4, none⟩ = some (.bool b.fav) := by rw [hW0]; simp [go_sem]
 have k5 : W0.cell? ⟨w.heap.size, 5, none⟩ = some (.int .i64 b.car) := by rw [hW0]; simp [go_sem]
 have k6 : W0.cell? ⟨w.heap.size, 6, none⟩ = some (.int .i64 b.duty) := by rw [hW0]; simp [go_sem]
 have k7 : W0.cell? ⟨w.heap.size, 7, none⟩ = some (.int .i64 b.step) := by rw [hW0]; simp [go_sem]
 have hz : w.heap.size < W0.heap.size := World.block_lt_of_cell? _ _ k0
 have HS := Lib.hid (HV.out.ext hE)
 have HW := Lib.hid hE
 rw [← hW0]
 clear hW0 HV
 have HNW := Lib.hid (HN.out.ext hE)
 clear hE HN




 go_wp2_with fail
 refine callW (W0 := W0) (g := ⟨W0, Below.refl _ _⟩) xx (fineL_any b ba sa bcap scap _ (HS.out.ext xx)) fun g1 hgr => ?_
 clear hgr
 cases hfi : fineB b
 ·skip

  go_wp2_with fail
  refine callW (W0 := W0) (g := g1) xx (worksL_any _) fun g2 hgr => ?_
  clear hgr
  go_wp2_with fail
  go_ret
  exact ⟨rfl, HW.out.trans' (grow_below W0 _)⟩

 have H0 := Lib.hid (fine_val hfi)
 have V := Lib.hid (bval_of (fine_val hfi))
 clear hfi
 by_cases hl : 20 < bs.length
 ·have hli : (20 : Int) < (bs.length : Int) := by omega
  have HL := Lib.hid hl
  clear hl

  go_wp2_with fail
  refine callW (W0 := W0) (g := g1) xx (worksL_any _) fun g3 hgr => ?_
  clear hgr
  go_wp2_with fail
  go_ret
  exact ⟨rfl, HW.out.trans' (grow_below W0 _)⟩

 have hli : ¬ ((20 : Int) < (bs.length : Int)) := by omega
 have HL := Lib.hid hl
 clear hl
 go_wp2_with fail
 refine callWR (W0 := W0) (g := g1) xx (finishL_any _ bs b ba sa bcap scap _ (HS.out.ext xx) V.out (HNW.out.ext xx) H8.out) (fun _ _ ⟨_, _, _, r, _⟩ => r) fun _ g4 hgr hr => ?_
 obtain ⟨fv, ps, rfl, -, hll, hfs⟩ := hr
 clear hgr
 obtain ⟨fa, fcap, rfl, -, -, -⟩ := hll.fin.spec
 have HF := Lib.hid hll.fin
 have FV : Hid (FinV b (finsOf ps)) := Lib.hid (by rw [hfs]; exact finL_val V.out bs)
 have FE := Lib.hid (finErr_of H0.out FV.out)
 clear hll hfs

 obtain ⟨A, hA⟩ : ∃ A, A = accA b (finsOf ps) := ⟨_, rfl⟩
 have HAO : Hid (AccOk A) := Lib.hid (by rw [hA]; exact acc_ok FV.out)
 have HAI : Hid (A.i = inP b ∧ A.k = backP b ∧ A.p = paidP b (finsOf ps)) := Lib.hid (by rw [hA]; exact ⟨(acc_ik _ _).1, (acc_ik _ _).2, acc_p⟩)
 have t1 := fun w h1 h2 => account_any ps (.slice fa ps.length fcap) b ba sa bcap scap w h1 h2
 rw [accE_ok FE.out, ← hA] at t1
 simp only [accV, accC] at t1
 have T1 := Lib.hid t1
 clear t1 hA
 go_wp2_with fail
 refine callW (W0 := W0) (g := g4) xx (T1.out _ (HS.out.ext xx) (HF.out.ext xx)) fun g5 hgr => ?_
 replace HF := Lib.hid (HF.out.ext hgr)
 clear hgr
 go_upto_region 5 with (fail)
 obtain ⟨U, hU⟩ : ∃ zz9, zz9 = (grow W0 g5).alloc (.cells #[.int .i64 A.i, .int .i64 A.k, .int .i64 A.d, .int .i64 A.p, .int .i64 A.q, .int .i64 A.o] 48) := ⟨_, rfl⟩
 have a0 : U.cell? ⟨(grow W0 g5).heap.size, 0, none⟩ = some (.int .i64 A.i) := by rw [hU]; simp [go_sem]
 have a1 : U.cell? ⟨(grow W0 g5).heap.size, 1, none⟩ = some (.int .i64 A.k) := by rw [hU]; simp [go_sem]
 have a2 : U.cell? ⟨(grow W0 g5).heap.size, 2, none⟩ = some (.int .i64 A.d) := by rw [hU]; simp [go_sem]
 have a3 : U.cell? ⟨(grow W0 g5).heap.size, 3, none⟩ = some (.int .i64 A.p) := by rw [hU]; simp [go_sem]
 have a4 : U.cell? ⟨(grow W0 g5).heap.size, 4, none⟩ = some (.int .i64 A.q) := by rw [hU]; simp [go_sem]
 have a5 : U.cell? ⟨(grow W0 g5).heap.size, 5, none⟩ = some (.int .i64 A.o) := by rw [hU]; simp [go_sem]
 have eU : Ext W0 U := by rw [hU]; exact xx
 have eUc : Ext (grow W0 g5) U := by rw [hU]; exact xx
 replace k0 := cell_ext eU k0
 replace k1 := cell_ext eU k1
 replace k2 := cell_ext eU k2
 replace k3 := cell_ext eU k3
 replace k4 := cell_ext eU k4
 replace k5 := cell_ext eU k5
 replace k6 := cell_ext eU k6
 replace k7 := cell_ext eU k7
 replace HS := Lib.hid (HS.out.ext eU)
 replace HNW := Lib.hid (HNW.out.ext eU)
 replace HF := Lib.hid (HF.out.ext eUc)
 replace HW := Lib.hid (HW.out.trans' eU)
 rw [← hU]
 obtain ⟨qa, hqa⟩ : ∃ b, b = (grow W0 g5).heap.size := ⟨_, rfl⟩
 rw [← hqa] at a0 a1 a2 a3 a4 a5 ⊢
 replace hz := World.block_lt_of_cell? _ _ k0
 have zqa := World.block_lt_of_cell? _ _ a0
 simp only at zqa
 clear hU eU eUc hqa
 have hk := HAO.out.k
 have hd := HAO.out.d
 have hp := HAO.out.p
 have hq := HAO.out.q
 have ho := HAO.out.o
 have hi := HAO.out.i
 have hsm : (A.i != A.k + A.d + A.p + A.q + A.o) = false := by rw [bne_eq_false_iff_eq]; exact HAO.out.sum
 have hvn := V.out.n
 have hcar := V.out.car
 have hmany := V.out.many
 have hin := (net_bd V.out).1
 go_wp2_with fail
 have HA1 := Lib.hid a1
 have HA3 := Lib.hid a3
 clear hsm hd hq ho a1 a2 a3 a4 a5
 go_loopw [8, 9, 10] (fun nv sv iv W => ∃ (k : Nat) (inn sum : Int), k ≤ b.bets.length ∧ iv = .int .i64 k ∧ nv = .int .i64 inn ∧ sv = .int .i64 sum ∧ inn = b.car + sumB (fun x => 100 * x.u) (b.bets.take k) ∧ sum = sumB (payP b (finsOf ps)) (b.bets.take k) ∧ Ext U W) (fun _ _ iv _ => b.bets.length - (intOf iv).toNat)
 case atStart => exact ⟨0, b.car, 0, by omega, rfl, rfl, rfl, by simp [sumB], by simp [sumB], Below.refl _ _⟩
 case round =>
  obtain ⟨k, inn, sum, hkl, rfl, rfl, rfl, hinn, hsum, hE⟩ := hrel
  have HIN := Lib.hid hinn
  have HSU := Lib.hid hsum
  have HE := Lib.hid hE
  have hib := in_bd V.out k
  have hsb := pay_to FV.out k hkl
  rw [← hsum] at hsb
  replace k0 := cell_ext hE k0
  replace k1 := cell_ext hE k1
  replace k2 := cell_ext hE k2
  replace k3 := cell_ext hE k3
  replace k4 := cell_ext hE k4
  replace k5 := cell_ext hE k5
  replace k6 := cell_ext hE k6
  replace k7 := cell_ext hE k7
  replace a0 := cell_ext hE a0
  replace hz := World.block_lt_of_cell? _ _ k0
  replace zqa := World.block_lt_of_cell? _ _ a0
  simp only at hz zqa
  by_cases hlt : k < b.bets.length
  ·have hki : (k : Int) < (b.bets.length : Int) := by omega
   obtain ⟨bb, off, rfl, hc⟩ := bets_cell HS.out.bets hlt
   obtain ⟨⟨d0, d1, d2⟩, hzd⟩ := hc wr hE
   have hpe := payE_at FE.out hlt
   have hpb := pay_bd FV.out (List.getElem_mem hlt)
   have htk1 := sumB_take (fun x => 100 * x.u) hlt
   have htk2 := sumB_take (payP b (finsOf ps)) hlt
   have hbu := (V.out.bet (List.getElem_mem hlt)).1
   obtain ⟨x, hx⟩ : ∃ x, x = b.bets[k] := ⟨_, rfl⟩
   rw [← hx] at d0 d1 d2 hpe hpb htk1 htk2 hbu
   obtain ⟨n, hn⟩ : ∃ n, n = payP b (finsOf ps) x := ⟨_, rfl⟩
   rw [← hn] at hpe hpb htk2
   have t2 := fun w h1 h2 => pay_any ps (.slice fa ps.length fcap) k b (some ⟨bb, off, none⟩) sa bcap scap w h1 h2
   rw [hpe] at t2
   have T2 := Lib.hid t2
   have HT1 := Lib.hid htk1
   have HT2 := Lib.hid htk2
   have hni : ¬ A.i < n := by rw [HAI.out.1]; omega
   have hn0 : ¬ n < 0 := by omega
   have hsw := in_bd V.out (k + 1)
   rw [htk1] at hsw
   have hss := pay_to FV.out (k + 1) (by omega)
   rw [htk2, ← hsum] at hss
   have hib2 : 0 ≤ inn + 100 * x.u ∧ inn + 100 * x.u ≤ 11000000 := by rw [hinn]; omega
   have hib3 : 0 ≤ inn ∧ inn ≤ 11000000 := by rw [hinn]; omega
   clear hinn hsum hE hc hpe htk1 htk2 hx hn t2 hsw hib
   go_wp2_with fail
   refine (T2.out _ (HS.out.ext (HE.out.trans' (by exact xx))) (HF.out.ext (HE.out.trans' (by exact xx)))).mono ?_
   rintro e Y ⟨rfl, hEY⟩
   replace k2 := cell_ext hEY k2
   replace a0 := cell_ext hEY a0
   replace d2 := cell_ext hEY d2
   replace hz := World.block_lt_of_cell? _ _ k2
   replace zqa := World.block_lt_of_cell? _ _ a0
   replace hzd := World.block_lt_of_cell? _ _ d2
   simp only at hz zqa hzd
   have HEY := Lib.hid (HE.out.trans' hEY)
   clear hEY k0 k1 k3 k4 k5 k6 k7 d0 d1
   go_wp2_with fail
   go_roundw
   case rel => exact ⟨k + 1, inn + 100 * x.u, sum + n, by omega, by go_num, by go_num, by go_num, by rw [HT1.out, HIN.out]; omega, by rw [HT2.out, HSU.out], HEY.out⟩
   case measure => simp [intOf]; omega
  ·have hki : ¬ ((k : Int) < (b.bets.length : Int)) := by omega
   have hke : k = b.bets.length := by omega
   rw [hke, List.take_length] at hinn hsum
   have e1 : (inn == A.i) = true := by rw [beq_iff_eq, hinn, HAI.out.1]; rfl
   have e2 : (sum == A.k + A.p) = true := by rw [beq_iff_eq, hsum, HAI.out.2.1, HAI.out.2.2]; exact pay_all FV.out
   have a1 := cell_ext hE HA1.out
   have a3 := cell_ext hE HA3.out
   have HFU := Lib.hid (HW.out.trans' hE)
   clear hinn hsum hE hke hib k0 k1 k3 k4 k5 k6 k7
   go_wp2_with fail
   refine (worksL_any _).mono ?_
   rintro e Z ⟨rfl, hEZ⟩
   have HEZ := Lib.hid (HFU.out.trans' hEZ)
   clear hEZ
   go_wp2_with fail
   go_ret
   exact ⟨rfl, HEZ.out⟩
end Go.Proofs.Ytphajlldghcnnaa
namespace Go.Proofs.Ytphajlldghcnnaa
open Go.RowKit
open Go.ChangeShapes Go.WideShapes Go.ChangeAt in
set_option maxRecDepth 100000 in
theorem poolBalanced_lifted (os : Os) (started : os.Started) (H : Type) (enc : TypeId × Value → H) :
  ReturnsInHanded {} Try.checked os 7 .any (Rows.poolBalancedSpec.pre6 enc Try.prog Try.f7 Rows.poolBalancedRow.domain false) (Rows.poolBalancedSpec.post enc Try.prog Try.f7 false true false false) := by
 refine returnsInHanded_of_change (C := Try.checked) own started (by kernel_rfl) Try.func7
  (ChangeSpec.witness6 (enc := enc) (C := Try.checked) false ⟨#[], #[.agg #[.int .i64 0, .int .i64 0, .slice none 0 0, .slice none 0 0, .bool false, .int .i64 0, .int .i64 0, .int .i64 0], .slice none 0 0], []⟩ 8 (by kernel_rfl) (by kernel_rfl) (by kernel_rfl) (by kernel_rfl)) ?_
 intro W base args ds gs before hval0 hW hcnd _
 have hval : ∀ (j : Nat) t v, Try.f7.params[j]? = some t → args[j]? = some v → Value.okWide Try.prog W .any base t v := hval0
 have hW' := hW
 obtain ⟨p, q, hA0, hV, rfl, hfz, hnd⟩ := hW
 have hA : DataW.TrodAll enc Try.prog W 0 (fun _ => true) true Try.f7.params.toList args.toList ds p := hA0
 rw [Try.params7] at hA hval
 obtain ⟨v0, vs0, d0, ds0, p0, q0, hargs, rfl, rfl, h0, r0⟩ := trodAll_cons hA
 obtain ⟨v1, vs1, d1, ds1, p1, q1, rfl, rfl, rfl, h1, r1⟩ := trodAll_cons r0
 obtain ⟨rfl, rfl, rfl⟩ := trodAll_nil r1
 obtain rfl : args = #[v0, v1] := by cases args; simp_all
 obtain ⟨b, ba, bs, bc, bd, rfl, hb⟩ := openBook (hval 0 25 v0 rfl rfl) h0
 obtain ⟨ns, hns, wns⟩ := openNumsK (k := .u8) Try.underlying59 Try.underlying5 (by kernel_rfl) (hval 1 59 v1 rfl rfl) h1
 clear hA0 hval0
 refine (poolBalanced_any b ba bs bc bd v1 ns W hb hns wns).mono fun e W' ⟨he, hb⟩ => ?_
 subst he
 exact ⟨_, rfl, law_post laidOut (tb := 4) (hts_of (by kernel_rfl)) (by kernel_rfl) Try.underlying4 hW' rfl rfl hb⟩
theorem poolBalanced_holds : Rows.PoolBalancedSaid :=
 OpenClaim.holds_of_wide 7 Try.f7 rfl rfl rfl rfl rfl rfl rfl ⟨rfl, rfl, rfl, rfl, rfl⟩ rfl rfl rfl rfl rfl (by kernel_rfl) Try.func7 (by kernel_rfl)
  (of_decide_eq_true (by kernel_rfl)) (by unfold Func.isWrapper; first | (rw [if_pos (by decide +kernel)]; kernel_rfl) | (rw [if_neg (by decide +kernel)]; exact ⟨rfl, rfl⟩))
  (fun os started H enc _ => poolBalanced_lifted os started H enc)
end Go.Proofs.Ytphajlldghcnnaa
