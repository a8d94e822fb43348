/-
 The walks of the law's great, far, Same and fine.
-/
import Derived.Test.YtphajlldghcnnaaPm
import Derived.Test.YtphajlldghcnnaaPq
namespace Go.Proofs.Ytphajlldghcnnaa
open Go.RowKit Go.Shelf
def greatB (b : Bk) : Bool := decide (110 < b.bets.length) || decide (20 < b.scr.length)
set_option maxRecDepth 100000 in
set_option maxHeartbeats 1000000 in
theorem greatL_any (b : Bk) (ba sa : Option Addr) (bcap scap : Nat) (w : World) : Calls Try.prog 17 #[.agg #[.int .i64 b.kd, .int .i64 b.n, .slice ba b.bets.length bcap, .slice sa b.scr.length scap, .bool b.fav, .int .i64 b.car, .int .i64 b.duty, .int .i64 b.step]] w fun e w' => e = .returned (.bool (greatB b)) ∧ Ext w w' := by
 go_enter Try.func17, Try.ntmps17
 by_cases h1 : 110 < b.bets.length
 ·have h1i : (110 : Int) < (b.bets.length : Int) := by omega
  have H1 := Lib.hid h1
  clear h1
  go_wp2_with fail
  go_ret
  exact ⟨ret_bool (by unfold greatB; rw [decide_eq_true H1.out]; rfl), by exact xx⟩
 have h1i : ¬ ((110 : Int) < (b.bets.length : Int)) := by omega
 have H1 := Lib.hid h1
 clear h1
 by_cases h2 : 20 < b.scr.length
 ·have h2i : (20 : Int) < (b.scr.length : Int) := by omega
  have H2 := Lib.hid h2
  clear h2
  go_wp2_with fail
  go_ret
  exact ⟨ret_bool (by unfold greatB; rw [decide_eq_true H2.out, Bool.or_true]), by exact xx⟩
 have h2i : ¬ ((20 : Int) < (b.scr.length : Int)) := by omega
 have H2 := Lib.hid h2
 clear h2
 go_wp2_with fail
 go_ret
 exact ⟨ret_bool (by unfold greatB; rw [decide_eq_false (by have := H1.out; omega), decide_eq_false (by have := H2.out; omega)]; rfl), by exact xx⟩
def fineB (b : Bk) : Bool := !greatB b && decide (bkErr b = 0)
set_option maxRecDepth 100000 in
set_option maxHeartbeats 1000000 in
theorem fineL_any (b : Bk) (ba sa : Option Addr) (bcap scap : Nat) (w : World) (hv : IsBook w b ba bcap sa scap) : Calls Try.prog 41 #[.agg #[.int .i64 b.kd, .int .i64 b.n, .slice ba b.bets.length bcap, .slice sa b.scr.length scap, .bool b.fav, .int .i64 b.car, .int .i64 b.duty, .int .i64 b.step]] w fun e w' => e = .returned (.bool (fineB b)) ∧ Ext w w' := by
 have HV := Lib.hid hv
 clear hv
 go_enter Try.func41, Try.ntmps41
 go_upto_region 1 with (fail)
 obtain ⟨W0, hW0⟩ : ∃ W0, W0 = w.alloc (.cells #[.int .i64 b.kd, .int .i64 b.n, .slice ba b.bets.length bcap, .slice sa b.scr.length scap, .bool b.fav, .int .i64 b.car, .int .i64 b.duty, .int .i64 b.step] 25) := ⟨_, rfl⟩
 have hE : Ext w W0 := by rw [hW0]; exact xx
 have k0 : W0.cell? ⟨w.heap.size, 0, none⟩ = some (.int .i64 b.kd) := by rw [hW0]; simp [go_sem]
 have k1 : W0.cell? ⟨w.heap.size, 1, none⟩ = some (.int .i64 b.n) := by rw [hW0]; simp [go_sem]
 have k2 : W0.cell? ⟨w.heap.size, 2, none⟩ = some (.slice ba b.bets.length bcap) := by rw [hW0]; simp [go_sem]
 have k3 : W0.cell? ⟨w.heap.size, 3, none⟩ = some (.slice sa b.scr.length scap) := by rw [hW0]; simp [go_sem]
 have k4 : W0.cell? ⟨w.heap.size, 4, none⟩ = some (.bool b.fav) := by rw [hW0]; simp [go_sem]
 have k5 : W0.cell? ⟨w.heap.size, 5, none⟩ = some (.int .i64 b.car) := by rw [hW0]; simp [go_sem]
 have k6 : W0.cell? ⟨w.heap.size, 6, none⟩ = some (.int .i64 b.duty) := by rw [hW0]; simp [go_sem]
 have k7 : W0.cell? ⟨w.heap.size, 7, none⟩ = some (.int .i64 b.step) := by rw [hW0]; simp [go_sem]
 have hz : w.heap.size < W0.heap.size := World.block_lt_of_cell? _ _ k0
 have HS := Lib.hid (HV.out.ext hE)
 have HW := Lib.hid hE
 rw [← hW0]
 clear hW0 HV
 clear hE




 go_wp2_with fail
 refine callW (W0 := W0) (g := ⟨W0, Below.refl _ _⟩) xx (greatL_any b ba sa bcap scap _) fun g1 hgr => ?_
 clear hgr
 cases hg : greatB b
 ·have HG := Lib.hid hg
  clear hg
  go_wp2_with fail
  refine callW (W0 := W0) (g := g1) xx (refCheck_any b ba sa bcap scap _ (HS.out.ext xx)) fun g2 hgr => ?_
  clear hgr
  obtain ⟨er, her⟩ : ∃ er, er = bkErr b := ⟨_, rfl⟩
  rw [← her]
  have HF : Hid (fineB b = decide (er = 0)) := Lib.hid (by unfold fineB; rw [HG.out, her]; rfl)
  clear her
  go_wp2_with fail
  go_ret
  exact ⟨ret_bool (by rw [HF.out]; first | rfl | (rw [Bool.eq_iff_iff]; simp)), HW.out.trans' (grow_below W0 _)⟩
 ·have HF : Hid (fineB b = false) := Lib.hid (by unfold fineB; rw [hg]; rfl)
  clear hg
  go_wp2_with fail
  go_ret
  exact ⟨ret_bool HF.out.symm, HW.out.trans' (grow_below W0 _)⟩
def RetAny (e : Ending) : Prop := ∃ c : Bool, e = .returned (.bool c)
set_option maxRecDepth 100000 in
set_option maxHeartbeats 1000000 in
/-- too many groups and runners, or not: the statements hold either way -/
theorem farL_any (ps : List (Value × List Int)) (fv : Value) (w : World) (hf : IsFin w fv ps) : Calls Try.prog 26 #[fv] w fun e w' => RetAny e ∧ Ext w w' := by
 obtain ⟨fa, fcap, rfl, h1, h2, hc⟩ := hf.spec
 have HC := Lib.hid hc
 have HF := Lib.hid hf
 clear hc hf
 go_enter Try.func26, Try.ntmps26
 go_wp2_with fail
 go_loopw [3, 4] (fun nv iv W => ∃ (k : Nat) (z : Int), k ≤ ps.length ∧ iv = .int .i64 k ∧ nv = .int .i64 z ∧ Ext w W) (fun _ iv _ => ps.length - (intOf iv).toNat)
 case atStart => exact ⟨0, _, by omega, rfl, rfl, Below.refl _ _⟩
 case round =>
  obtain ⟨k, z, hk, rfl, rfl, hE⟩ := hrel
  have HE := Lib.hid hE
  by_cases hlt : k < ps.length
  ·have hki : (k : Int) < (ps.length : Int) := by omega
   rcases HC.out with h0 | ⟨fb, fo, rfl, hc⟩
   ·rw [h0] at hlt; simp at hlt
   have c0 := cell_ext hE (hc k hlt)
   have hz := World.block_lt_of_cell? _ _ c0
   simp only at hz
   obtain ⟨ga, gc, hg, -, -, -⟩ := ((HF.out.ints _ (List.getElem_mem hlt)).ext hE).spec
   rw [hg] at c0
   clear hc hg hE
   go_wp2_with fail
   go_roundw
   case rel => exact ⟨k + 1, _, by omega, by go_num, rfl, HE.out⟩
   case measure => simp [intOf]; omega
  ·have hki : ¬ ((k : Int) < (ps.length : Int)) := by omega
   clear hE
   go_wp2_with fail
   go_ret
   exact ⟨⟨decide (40 < z), rfl⟩, HE.out⟩
set_option maxRecDepth 200000 in
set_option maxHeartbeats 4000000 in
theorem sameL_any (b : Bk) (ba sa ba2 sa2 : Option Addr) (bcap scap bcap2 scap2 : Nat) (w : World) (h1 : IsBook w b ba bcap sa scap) (h2 : IsBook w b ba2 bcap2 sa2 scap2) :
  Calls Try.prog 25 #[.agg #[.int .i64 b.kd, .int .i64 b.n, .slice ba b.bets.length bcap, .slice sa b.scr.length scap, .bool b.fav, .int .i64 b.car, .int .i64 b.duty, .int .i64 b.step], .agg #[.int .i64 b.kd, .int .i64 b.n, .slice ba2 b.bets.length bcap2, .slice sa2 b.scr.length scap2, .bool b.fav, .int .i64 b.car, .int .i64 b.duty, .int .i64 b.step]] w fun e w' => e = .returned (.bool true) ∧ Ext w w' := by
 have HV1 := Lib.hid h1
 have HV2 := Lib.hid h2
 obtain ⟨⟨m1, m2⟩, m3, m4⟩ := h1.caps
 obtain ⟨⟨n1, n2⟩, n3, n4⟩ := h2.caps
 have hneq := fun a b c a' b' c' W => neq_bet W a b c a' b' c'
 clear h1 h2
 go_enter Try.func25, Try.ntmps25
 go_upto_region 1 with (fail)
 obtain ⟨W0, hW0⟩ : ∃ W0, W0 = (w.alloc (.cells #[.int .i64 b.kd, .int .i64 b.n, .slice ba b.bets.length bcap, .slice sa b.scr.length scap, .bool b.fav, .int .i64 b.car, .int .i64 b.duty, .int .i64 b.step] 25)).alloc (.cells #[.int .i64 b.kd, .int .i64 b.n, .slice ba2 b.bets.length bcap2, .slice sa2 b.scr.length scap2, .bool b.fav, .int .i64 b.car, .int .i64 b.duty, .int .i64 b.step] 25) := ⟨_, rfl⟩
 have hE : Ext w W0 := by rw [hW0]; exact xx
 have hb1 : BookAt W0 w.heap.size b ba bcap sa scap := by rw [hW0]; constructor <;> simp [go_sem]
 have hb2 : BookAt W0 (w.heap.size + 1) b ba2 bcap2 sa2 scap2 := by rw [hW0]; constructor <;> simp [go_sem]
 rw [← hW0]
 have k0 := (hb1).c0
 have k1 := (hb1).c1
 have k2 := (hb1).c2
 have k3 := (hb1).c3
 have k4 := (hb1).c4
 have k5 := (hb1).c5
 have k6 := (hb1).c6
 have k7 := (hb1).c7
 have hz := (hb1).lt
 have j0 := hb2.c0
 have j1 := hb2.c1
 have j2 := hb2.c2
 have j3 := hb2.c3
 have j4 := hb2.c4
 have j5 := hb2.c5
 have j6 := hb2.c6
 have j7 := hb2.c7
 have hzj := hb2.lt
 have HW := Lib.hid hE
 have HS1 := Lib.hid (HV1.out.ext hE)
 have HS2 := Lib.hid (HV2.out.ext hE)
 clear hW0 hE hb1 hb2
 have e0 : (b.kd != b.kd) = false := by simp
 have e1 : (b.n != b.n) = false := by simp
 have e2 : (b.fav != b.fav) = false := by simp
 have e3 : (b.car != b.car) = false := by simp
 have e4 : (b.duty != b.duty) = false := by simp
 have e5 : (b.step != b.step) = false := by simp
 have e6 : ((b.bets.length : Int) != (b.bets.length : Int)) = false := by simp
 go_wp2_with fail
 go_loopw [5] (fun iv W => ∃ k : Nat, k ≤ b.bets.length ∧ iv = .int .i64 k ∧ Ext W0 W) (fun iv _ => b.bets.length - (intOf iv).toNat)
 case atStart => exact ⟨0, by omega, rfl, Below.refl _ _⟩
 case round =>
  obtain ⟨k, hk, rfl, hE⟩ := hrel
  have HE := Lib.hid hE
  replace k2 := cell_ext hE k2
  replace k3 := cell_ext hE k3
  replace j2 := cell_ext hE j2
  replace j3 := cell_ext hE j3
  replace hz := World.block_lt_of_cell? _ _ k2
  replace hzj := World.block_lt_of_cell? _ _ j2
  simp only at hz hzj
  by_cases hlt : k < b.bets.length
  ·have hki : (k : Int) < (b.bets.length : Int) := by omega
   obtain ⟨bb, off, rfl, hc⟩ := bets_cell HS1.out.bets hlt
   obtain ⟨⟨d0, d1, d2⟩, hzd⟩ := hc wr hE
   obtain ⟨bb2, off2, rfl, hc2⟩ := bets_cell HS2.out.bets hlt
   obtain ⟨⟨f0, f1, f2⟩, hzf⟩ := hc2 wr hE
   obtain ⟨x, hx⟩ : ∃ x, x = b.bets[k] := ⟨_, rfl⟩
   rw [← hx] at d0 d1 d2 f0 f1 f2
   have hd : (!(x.f == x.f && x.s == x.s && x.u == x.u)) = false := by simp
   clear hc hc2 hx hE k0 k1 k4 k5 k6 k7 j0 j1 j4 j5 j6 j7 e0 e1 e2 e3 e4 e5 e6
   go_upto_region 6 with (fail)
   go_quiet (fail)
   go_wp2_with fail
   go_roundw
   case rel => exact ⟨k + 1, by omega, by go_num, HE.out.drN _⟩
   case measure => simp [intOf]; omega
  ·have hki : ¬ ((k : Int) < (b.bets.length : Int)) := by omega
   clear hE
   go_wp2_with fail
   refine (intsL_any b.scr b.scr _ _ _ (HS1.out.ext HE.out).scr (HS2.out.ext HE.out).scr).mono ?_
   rintro e W5 ⟨rfl, hE5⟩
   rw [decide_eq_true (rfl : b.scr = b.scr)]
   have HE5 := Lib.hid ((HW.out.trans' HE.out).trans' hE5)
   clear hE5
   go_wp2_with fail
   go_ret
   exact ⟨rfl, HE5.out⟩
end Go.Proofs.Ytphajlldghcnnaa
