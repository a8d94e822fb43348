/-
 The statement PoolSpreads holds: from what to what is paid is what the definition says; for every book that is handed in. No condition.
-/
import Derived.Test.YtphajlldghcnnaaRefS
import Derived.Test.YtphajlldghcnnaaPr
import Derived.Test.YtphajlldghcnnaaPn
import Derived.Test.YtphajlldghcnnaaPl
namespace Go.Proofs.Ytphajlldghcnnaa
open Go.RowKit Go.Shelf
set_option maxRecDepth 200000 in
set_option maxHeartbeats 8000000 in
theorem poolSpreads_any (b : Bk) (ba sa : Option Addr) (bcap scap : Nat) (w : World) (hv : IsBook w b ba bcap sa scap) : Calls Try.prog 6 #[.agg #[.int .i64 b.kd, .int .i64 b.n, .slice ba b.bets.length bcap, .slice sa b.scr.length scap, .bool b.fav, .int .i64 b.car, .int .i64 b.duty, .int .i64 b.step]] w fun e w' => e = .returned (.bool true) ∧ Ext w w' := by
 have HV := Lib.hid hv
 clear hv
 go_enter Try.func6, Try.ntmps6
 go_upto_region 1 with (fail)
 obtain ⟨W0, hW0⟩ : ∃ W0, W0 = w.alloc (.cells #[.int .i64 b.kd, .int .i64 b.n, .slice ba b.bets.length bcap, .slice sa b.scr.length scap, .bool b.fav, .int .i64 b.car, .int .i64 b.duty, .int .i64 b.step] 25) := ⟨_, rfl⟩
 have hE : Ext w W0 := by rw [hW0]; exact xx
 have k0 : W0.cell? ⟨w.heap.size, 0, none⟩ = some (.int .i64 b.kd) := by rw [hW0]; simp [go_sem]
 have k1 : W0.cell? ⟨w.heap.size, 1, none⟩ = some (.int .i64 b.n) := by rw [hW0]; simp [go_sem]
 have k2 : W0.cell? ⟨w.heap.size, 2, none⟩ = some (.slice ba b.bets.length bcap) := by rw [hW0]; simp [go_sem]
 have k3 : W0.cell? ⟨w.heap.size, 3, none⟩ = some (.slice sa b.scr.length scap) := by rw [hW0]; simp [go_sem]
 have k4 : W0.cell? ⟨w.heap.size, 4, none⟩ = some (.bool b.fav) := by rw [hW0]; simp [go_sem]
 have k5 : W0.cell? ⟨w.heap.size, 5, none⟩ = some (.int .i64 b.car) := by rw [hW0]; simp [go_sem]
 have k6 : W0.cell? ⟨w.heap.size, 6, none⟩ = some (.int .i64 b.duty) := by rw [hW0]; simp [go_sem]
 have k7 : W0.cell? ⟨w.heap.size, 7, none⟩ = some (.int .i64 b.step) := by rw [hW0]; simp [go_sem]
 have hz : w.heap.size < W0.heap.size := World.block_lt_of_cell? _ _ k0
 have HS := Lib.hid (HV.out.ext hE)
 have HW := Lib.hid hE
 rw [← hW0]
 clear hW0 HV
 clear hE




 go_wp2_with fail
 refine callW (W0 := W0) (g := ⟨W0, Below.refl _ _⟩) xx (greatL_any b ba sa bcap scap _) fun g1 hgr => ?_
 clear hgr
 cases hg : greatB b
 rotate_left
 ·skip

  go_wp2_with fail
  refine callW (W0 := W0) (g := g1) xx (worksL_any _) fun g2 hgr => ?_
  clear hgr
  go_wp2_with fail
  go_ret
  exact ⟨rfl, HW.out.trans' (grow_below W0 _)⟩

 clear hg
 obtain ⟨er, her⟩ : ∃ er, er = bkErr b := ⟨_, rfl⟩
 obtain ⟨lo, hlo⟩ : ∃ lo, lo = sprLo b := ⟨_, rfl⟩
 obtain ⟨hi, hhi⟩ : ∃ hi, hi = sprHi b := ⟨_, rfl⟩
 have t0 := fun w h => refCheck_any b ba sa bcap scap w h
 have t1 := fun w h => spread_any b ba sa bcap scap w h
 have t2 := fun w h => refSpread_any b ba sa bcap scap w h
 unfold RetSpr at t1 t2
 rw [← her] at t0
 rw [← her, ← hlo, ← hhi] at t1 t2
 have T0 := Lib.hid t0
 have T1 := Lib.hid t1
 have T2 := Lib.hid t2
 have qR := fun W => eql_rng W lo hi lo hi
 have hqr : (lo == lo && hi == hi) = true := by simp
 simp only [hqr] at qR
 clear t0 t1 t2 her hlo hhi hqr
 go_wp2_with fail
 refine callW (W0 := W0) (g := g1) xx (T0.out _ (HS.out.ext xx)) fun g3 hgr => ?_
 clear hgr
 by_cases h0 : er = 0
 rotate_left
 ·have f0 : (er == 0) = false := by rw [beq_eq_false_iff_ne]; exact h0
  clear h0

  go_wp2_with fail
  refine callWR (W0 := W0) (g := g3) xx (T1.out _ (HS.out.ext xx)) (fun _ _ h => h.1) fun _ g4 hgr hr => ?_
  obtain ⟨-, rfl⟩ := hr
  clear hgr
  go_upto_region 4 with (fail)
  obtain ⟨U1, hU1⟩ : ∃ zz9, zz9 = (grow W0 g4).alloc (.cells #[.int .i64 lo, .int .i64 hi] 56) := ⟨_, rfl⟩
  have a0 : U1.cell? ⟨(grow W0 g4).heap.size, 0, none⟩ = some (.int .i64 lo) := by rw [hU1]; simp [go_sem]
  have a1 : U1.cell? ⟨(grow W0 g4).heap.size, 1, none⟩ = some (.int .i64 hi) := by rw [hU1]; simp [go_sem]
  have eU1 : Ext W0 U1 := by rw [hU1]; exact xx
  replace k0 := cell_ext eU1 k0
  replace k1 := cell_ext eU1 k1
  replace k2 := cell_ext eU1 k2
  replace k3 := cell_ext eU1 k3
  replace k4 := cell_ext eU1 k4
  replace k5 := cell_ext eU1 k5
  replace k6 := cell_ext eU1 k6
  replace k7 := cell_ext eU1 k7
  replace HS := Lib.hid (HS.out.ext eU1)
  replace HW := Lib.hid (HW.out.trans' eU1)
  rw [← hU1]
  obtain ⟨qa, hqa⟩ : ∃ b, b = (grow W0 g4).heap.size := ⟨_, rfl⟩
  rw [← hqa] at a0 a1 ⊢
  replace hz := World.block_lt_of_cell? _ _ k0
  have zqa := World.block_lt_of_cell? _ _ a0
  simp only at zqa
  clear hU1 eU1 hqa
  go_wp2_with fail
  refine callWR (W0 := U1) (g := ⟨U1, Below.refl _ _⟩) xx (T2.out _ (HS.out.ext xx)) (fun _ _ h => h.1) fun _ g5 hgr hr => ?_
  obtain ⟨-, rfl⟩ := hr
  clear hgr
  go_upto_region 5 with (fail)
  obtain ⟨U2, hU2⟩ : ∃ zz9, zz9 = (grow U1 g5).alloc (.cells #[.int .i64 lo, .int .i64 hi] 56) := ⟨_, rfl⟩
  have c0 : U2.cell? ⟨(grow U1 g5).heap.size, 0, none⟩ = some (.int .i64 lo) := by rw [hU2]; simp [go_sem]
  have c1 : U2.cell? ⟨(grow U1 g5).heap.size, 1, none⟩ = some (.int .i64 hi) := by rw [hU2]; simp [go_sem]
  have eU2 : Ext U1 U2 := by rw [hU2]; exact xx
  replace k0 := cell_ext eU2 k0
  replace k1 := cell_ext eU2 k1
  replace k2 := cell_ext eU2 k2
  replace k3 := cell_ext eU2 k3
  replace k4 := cell_ext eU2 k4
  replace k5 := cell_ext eU2 k5
  replace k6 := cell_ext eU2 k6
  replace k7 := cell_ext eU2 k7
  replace a0 := cell_ext eU2 a0
  replace a1 := cell_ext eU2 a1
  replace HS := Lib.hid (HS.out.ext eU2)
  replace HW := Lib.hid (HW.out.trans' eU2)
  rw [← hU2]
  obtain ⟨qb, hqb⟩ : ∃ b, b = (grow U1 g5).heap.size := ⟨_, rfl⟩
  rw [← hqb] at c0 c1 ⊢
  replace hz := World.block_lt_of_cell? _ _ k0
  replace zqa := World.block_lt_of_cell? _ _ a0
  have zqb := World.block_lt_of_cell? _ _ c0
  simp only at zqb
  clear hU2 eU2 hqb
  go_wp2_with fail
  refine (worksL_any _).mono ?_
  rintro e W9 ⟨rfl, hE9⟩
  have HE9 := Lib.hid hE9
  clear hE9
  go_wp2_with fail
  go_ret
  exact ⟨rfl, HW.out.trans' HE9.out⟩

 ·have f0 : (er == 0) = true := by rw [beq_iff_eq]; exact h0
  clear h0
  by_cases h6 : (6 : Int) < b.n
  ·skip

   go_wp2_with fail
   refine callW (W0 := W0) (g := g3) xx (worksL_any _) fun g6 hgr => ?_
   clear hgr
   go_wp2_with fail
   go_ret
   exact ⟨rfl, HW.out.trans' (grow_below W0 _)⟩

  by_cases hl : 20 < b.bets.length
  ·have hli : (20 : Int) < (b.bets.length : Int) := by omega
   have HL := Lib.hid hl
   clear hl

   go_wp2_with fail
   refine callW (W0 := W0) (g := g3) xx (worksL_any _) fun g7 hgr => ?_
   clear hgr
   go_wp2_with fail
   go_ret
   exact ⟨rfl, HW.out.trans' (grow_below W0 _)⟩

  have hli : ¬ ((20 : Int) < (b.bets.length : Int)) := by omega
  have HL := Lib.hid hl
  clear hl

  go_wp2_with fail
  refine callWR (W0 := W0) (g := g3) xx (T1.out _ (HS.out.ext xx)) (fun _ _ h => h.1) fun _ g8 hgr hr => ?_
  obtain ⟨-, rfl⟩ := hr
  clear hgr
  go_upto_region 4 with (fail)
  obtain ⟨U1, hU1⟩ : ∃ zz9, zz9 = (grow W0 g8).alloc (.cells #[.int .i64 lo, .int .i64 hi] 56) := ⟨_, rfl⟩
  have a0 : U1.cell? ⟨(grow W0 g8).heap.size, 0, none⟩ = some (.int .i64 lo) := by rw [hU1]; simp [go_sem]
  have a1 : U1.cell? ⟨(grow W0 g8).heap.size, 1, none⟩ = some (.int .i64 hi) := by rw [hU1]; simp [go_sem]
  have eU1 : Ext W0 U1 := by rw [hU1]; exact xx
  replace k0 := cell_ext eU1 k0
  replace k1 := cell_ext eU1 k1
  replace k2 := cell_ext eU1 k2
  replace k3 := cell_ext eU1 k3
  replace k4 := cell_ext eU1 k4
  replace k5 := cell_ext eU1 k5
  replace k6 := cell_ext eU1 k6
  replace k7 := cell_ext eU1 k7
  replace HS := Lib.hid (HS.out.ext eU1)
  replace HW := Lib.hid (HW.out.trans' eU1)
  rw [← hU1]
  obtain ⟨qa, hqa⟩ : ∃ b, b = (grow W0 g8).heap.size := ⟨_, rfl⟩
  rw [← hqa] at a0 a1 ⊢
  replace hz := World.block_lt_of_cell? _ _ k0
  have zqa := World.block_lt_of_cell? _ _ a0
  simp only at zqa
  clear hU1 eU1 hqa
  go_wp2_with fail
  refine callWR (W0 := U1) (g := ⟨U1, Below.refl _ _⟩) xx (T2.out _ (HS.out.ext xx)) (fun _ _ h => h.1) fun _ g9 hgr hr => ?_
  obtain ⟨-, rfl⟩ := hr
  clear hgr
  go_upto_region 5 with (fail)
  obtain ⟨U2, hU2⟩ : ∃ zz9, zz9 = (grow U1 g9).alloc (.cells #[.int .i64 lo, .int .i64 hi] 56) := ⟨_, rfl⟩
  have c0 : U2.cell? ⟨(grow U1 g9).heap.size, 0, none⟩ = some (.int .i64 lo) := by rw [hU2]; simp [go_sem]
  have c1 : U2.cell? ⟨(grow U1 g9).heap.size, 1, none⟩ = some (.int .i64 hi) := by rw [hU2]; simp [go_sem]
  have eU2 : Ext U1 U2 := by rw [hU2]; exact xx
  replace k0 := cell_ext eU2 k0
  replace k1 := cell_ext eU2 k1
  replace k2 := cell_ext eU2 k2
  replace k3 := cell_ext eU2 k3
  replace k4 := cell_ext eU2 k4
  replace k5 := cell_ext eU2 k5
  replace k6 := cell_ext eU2 k6
  replace k7 := cell_ext eU2 k7
  replace a0 := cell_ext eU2 a0
  replace a1 := cell_ext eU2 a1
  replace HS := Lib.hid (HS.out.ext eU2)
  replace HW := Lib.hid (HW.out.trans' eU2)
  rw [← hU2]
  obtain ⟨qb, hqb⟩ : ∃ b, b = (grow U1 g9).heap.size := ⟨_, rfl⟩
  rw [← hqb] at c0 c1 ⊢
  replace hz := World.block_lt_of_cell? _ _ k0
  replace zqa := World.block_lt_of_cell? _ _ a0
  have zqb := World.block_lt_of_cell? _ _ c0
  simp only at zqb
  clear hU2 eU2 hqb
  go_wp2_with fail
  refine (worksL_any _).mono ?_
  rintro e W9 ⟨rfl, hE9⟩
  have HE9 := Lib.hid hE9
  clear hE9
  go_wp2_with fail
  go_ret
  exact ⟨rfl, HW.out.trans' HE9.out⟩

end Go.Proofs.Ytphajlldghcnnaa
namespace Go.Proofs.Ytphajlldghcnnaa
open Go.RowKit
open Go.ChangeShapes Go.WideShapes Go.ChangeAt in
set_option maxRecDepth 100000 in
theorem poolSpreads_lifted (os : Os) (started : os.Started) (H : Type) (enc : TypeId × Value → H) :
  ReturnsInHanded {} Try.checked os 6 .any (Rows.poolSpreadsSpec.pre6 enc Try.prog Try.f6 Rows.poolSpreadsRow.domain false) (Rows.poolSpreadsSpec.post enc Try.prog Try.f6 false true false false) := by
 refine returnsInHanded_of_change (C := Try.checked) own started (by kernel_rfl) Try.func6
  (ChangeSpec.witness6 (enc := enc) (C := Try.checked) false ⟨#[], #[.agg #[.int .i64 0, .int .i64 0, .slice none 0 0, .slice none 0 0, .bool false, .int .i64 0, .int .i64 0, .int .i64 0]], []⟩ 8 (by kernel_rfl) (by kernel_rfl) (by kernel_rfl) (by kernel_rfl)) ?_
 intro W base args ds gs before hval0 hW hcnd _
 have hval : ∀ (j : Nat) t v, Try.f6.params[j]? = some t → args[j]? = some v → Value.okWide Try.prog W .any base t v := hval0
 have hW' := hW
 obtain ⟨p, q, hA0, hV, rfl, hfz, hnd⟩ := hW
 have hA : DataW.TrodAll enc Try.prog W 0 (fun _ => true) true Try.f6.params.toList args.toList ds p := hA0
 rw [Try.params6] at hA hval
 obtain ⟨v0, vs0, d0, ds0, p0, q0, hargs, rfl, rfl, h0, r0⟩ := trodAll_cons hA
 obtain ⟨rfl, rfl, rfl⟩ := trodAll_nil r0
 obtain rfl : args = #[v0] := by cases args; simp_all
 obtain ⟨b, ba, bs, bc, bd, rfl, hb⟩ := openBook (hval 0 25 v0 rfl rfl) h0
 clear hA0 hval0
 refine (poolSpreads_any b ba bs bc bd W hb).mono fun e W' ⟨he, hb⟩ => ?_
 subst he
 exact ⟨_, rfl, law_post laidOut (tb := 4) (hts_of (by kernel_rfl)) (by kernel_rfl) Try.underlying4 hW' rfl rfl hb⟩
theorem poolSpreads_holds : Rows.PoolSpreadsSaid :=
 OpenClaim.holds_of_wide 6 Try.f6 rfl rfl rfl rfl rfl rfl rfl ⟨rfl, rfl, rfl, rfl, rfl⟩ rfl rfl rfl rfl rfl (by kernel_rfl) Try.func6 (by kernel_rfl)
  (of_decide_eq_true (by kernel_rfl)) (by unfold Func.isWrapper; first | (rw [if_pos (by decide +kernel)]; kernel_rfl) | (rw [if_neg (by decide +kernel)]; exact ⟨rfl, rfl⟩))
  (fun os started H enc _ => poolSpreads_lifted os started H enc)
end Go.Proofs.Ytphajlldghcnnaa
