/-
  The statement PoolPays holds: the dividends, the account and what is paid for a bet; for every book, finish and bet that are handed in. No condition.
-/
import Derived.Test.YtphajlldghcnnaaPr
import Derived.Test.YtphajlldghcnnaaPn
import Derived.Test.YtphajlldghcnnaaPm
import Derived.Test.YtphajlldghcnnaaPw
namespace Go.Proofs.Ytphajlldghcnnaa
open Go.RowKit Go.Shelf
theorem accE_form (b : Bk) (fs : List (List Int)) : ∃ A er, accE b fs = .tuple #[accV A, .int .i64 er] := ⟨_, _, rfl⟩
theorem payE_form (b : Bk) (fs : List (List Int)) (q : Int) : ∃ n er, payE b fs q = .tuple #[.int .i64 n, .int .i64 er] := ⟨_, _, rfl⟩
set_option maxRecDepth 200000 in
set_option maxHeartbeats 8000000 in
theorem poolPays_any (b : Bk) (ba sa : Option Addr) (bcap scap : Nat) (fv : Value) (ps : List (Value × List Int)) (q : Int) (w : World) (hv : IsBook w b ba bcap sa scap) (hf : IsFin w fv ps) : Calls Try.prog 5 #[.agg #[.int .i64 b.kd, .int .i64 b.n, .slice ba b.bets.length bcap, .slice sa b.scr.length scap, .bool b.fav, .int .i64 b.car, .int .i64 b.duty, .int .i64 b.step], fv, .int .i64 q] w fun e w' => e = .returned (.bool true) ∧ Ext w w' := by
  obtain ⟨fa, fcap, rfl, hf1, hf2, -⟩ := hf.spec
  have HF := Lib.hid hf
  clear hf
  have HV := Lib.hid hv
  clear hv
  go_enter Try.func5, Try.ntmps5
  go_upto_region 1 with (fail)
  obtain ⟨W0, hW0⟩ : ∃ W0, W0 = w.alloc (.cells #[.int .i64 b.kd, .int .i64 b.n, .slice ba b.bets.length bcap, .slice sa b.scr.length scap, .bool b.fav, .int .i64 b.car, .int .i64 b.duty, .int .i64 b.step] 25) := ⟨_, rfl⟩
  have hE : Ext w W0 := by rw [hW0]; exact (by repeat (first | exact Below.refl _ _ | refine Ext.al ?_ _ | refine Ext.dr ?_ | refine Ext.drN ?_ _ | refine Ext.gr ?_ _ | refine Ext.set ?_ (by simp) _ | (refine Ext.trans' ?_ (by assumption))))
  have k0 : W0.cell? ⟨w.heap.size, 0, none⟩ = some (.int .i64 b.kd) := by rw [hW0]; simp [go_sem]
  have k1 : W0.cell? ⟨w.heap.size, 1, none⟩ = some (.int .i64 b.n) := by rw [hW0]; simp [go_sem]
  have k2 : W0.cell? ⟨w.heap.size, 2, none⟩ = some (.slice ba b.bets.length bcap) := by rw [hW0]; simp [go_sem]
  have k3 : W0.cell? ⟨w.heap.size, 3, none⟩ = some (.slice sa b.scr.length scap) := by rw [hW0]; simp [go_sem]
  have k4 : W0.cell? ⟨w.heap.size, 4, none⟩ = some (.bool b.fav) := by rw [hW0]; simp [go_sem]
  have k5 : W0.cell? ⟨w.heap.size, 5, none⟩ = some (.int .i64 b.car) := by rw [hW0]; simp [go_sem]
  have k6 : W0.cell? ⟨w.heap.size, 6, none⟩ = some (.int .i64 b.duty) := by rw [hW0]; simp [go_sem]
  have k7 : W0.cell? ⟨w.heap.size, 7, none⟩ = some (.int .i64 b.step) := by rw [hW0]; simp [go_sem]
  have hz : w.heap.size < W0.heap.size := World.block_lt_of_cell? _ _ k0
  have HS := Lib.hid (HV.out.ext hE)
  have HW := Lib.hid hE
  rw [← hW0]
  clear hW0 HV
  have HFW := Lib.hid (HF.out.ext hE)
  clear hE HF




  go_wp2_with fail
  refine callW (W0 := W0) (g := ⟨W0, Below.refl _ _⟩) (by exact (by repeat (first | exact Below.refl _ _ | refine Ext.al ?_ _ | refine Ext.dr ?_ | refine Ext.drN ?_ _ | refine Ext.gr ?_ _ | refine Ext.set ?_ (by simp) _ | (refine Ext.trans' ?_ (by assumption))))) (greatL_any b ba sa bcap scap _) fun g1 hgr => ?_
  clear hgr
  cases hg : greatB b
  rotate_left
  · skip

    go_wp2_with fail
    refine callW (W0 := W0) (g := g1) (by exact (by repeat (first | exact Below.refl _ _ | refine Ext.al ?_ _ | refine Ext.dr ?_ | refine Ext.drN ?_ _ | refine Ext.gr ?_ _ | refine Ext.set ?_ (by simp) _ | (refine Ext.trans' ?_ (by assumption))))) (worksL_any _) fun g2 hgr => ?_
    clear hgr
    go_wp2_with fail
    go_ret
    exact ⟨rfl, HW.out.trans' (grow_below W0 _)⟩

  clear hg
  go_wp2_with fail
  refine callWR (W0 := W0) (g := g1) (by exact (by repeat (first | exact Below.refl _ _ | refine Ext.al ?_ _ | refine Ext.dr ?_ | refine Ext.drN ?_ _ | refine Ext.gr ?_ _ | refine Ext.set ?_ (by simp) _ | (refine Ext.trans' ?_ (by assumption))))) (farL_any ps _ _ (HFW.out.ext (by exact (by repeat (first | exact Below.refl _ _ | refine Ext.al ?_ _ | refine Ext.dr ?_ | refine Ext.drN ?_ _ | refine Ext.gr ?_ _ | refine Ext.set ?_ (by simp) _ | (refine Ext.trans' ?_ (by assumption))))))) (fun _ _ ⟨_, r⟩ => r) fun _ g3 hgr hr => ?_
  obtain ⟨⟨c, rfl⟩, -⟩ := hr
  clear hgr
  cases c
  rotate_left
  · skip

    go_wp2_with fail
    refine callW (W0 := W0) (g := g3) (by exact (by repeat (first | exact Below.refl _ _ | refine Ext.al ?_ _ | refine Ext.dr ?_ | refine Ext.drN ?_ _ | refine Ext.gr ?_ _ | refine Ext.set ?_ (by simp) _ | (refine Ext.trans' ?_ (by assumption))))) (worksL_any _) fun g4 hgr => ?_
    clear hgr
    go_wp2_with fail
    go_ret
    exact ⟨rfl, HW.out.trans' (grow_below W0 _)⟩

  obtain ⟨L, hL⟩ : ∃ L, L = divL b (finsOf ps) := ⟨_, rfl⟩
  obtain ⟨er, her⟩ : ∃ er, er = divErr b (finsOf ps) := ⟨_, rfl⟩
  obtain ⟨A, ae, hae⟩ := accE_form b (finsOf ps)
  obtain ⟨n, pe, hpe⟩ := payE_form b (finsOf ps) q
  have t1 := fun w h1 h2 => dividendsP_any ps (.slice fa ps.length fcap) b ba sa bcap scap w h1 h2
  have t2 := fun w h1 h2 => refDiv_any ps (.slice fa ps.length fcap) b ba sa bcap scap w h1 h2
  have t3 := fun w h1 h2 => account_any ps (.slice fa ps.length fcap) b ba sa bcap scap w h1 h2
  have t4 := fun w h1 h2 => refAcc_any ps (.slice fa ps.length fcap) b ba sa bcap scap w h1 h2
  have t5 := fun w h1 h2 => pay_any ps (.slice fa ps.length fcap) q b ba sa bcap scap w h1 h2
  have t6 := fun w h1 h2 => refPay_any ps (.slice fa ps.length fcap) q b ba sa bcap scap w h1 h2
  unfold RetDiv at t1 t2
  rw [← hL, ← her] at t1 t2
  rw [hae] at t3 t4
  rw [hpe] at t5 t6
  have qA := fun W => acc_eql A W
  simp only [accV, accC] at t3 t4 qA
  have T1 := Lib.hid t1
  have T2 := Lib.hid t2
  have T3 := Lib.hid t3
  have T4 := Lib.hid t4
  have T5 := Lib.hid t5
  have T6 := Lib.hid t6
  clear t1 t2 t3 t4 t5 t6 hL her hae hpe
  go_wp2_with fail
  refine callWR (W0 := W0) (g := g3) (by exact (by repeat (first | exact Below.refl _ _ | refine Ext.al ?_ _ | refine Ext.dr ?_ | refine Ext.drN ?_ _ | refine Ext.gr ?_ _ | refine Ext.set ?_ (by simp) _ | (refine Ext.trans' ?_ (by assumption))))) (T1.out _ (HS.out.ext (by exact (by repeat (first | exact Below.refl _ _ | refine Ext.al ?_ _ | refine Ext.dr ?_ | refine Ext.drN ?_ _ | refine Ext.gr ?_ _ | refine Ext.set ?_ (by simp) _ | (refine Ext.trans' ?_ (by assumption)))))) (HFW.out.ext (by exact (by repeat (first | exact Below.refl _ _ | refine Ext.al ?_ _ | refine Ext.dr ?_ | refine Ext.drN ?_ _ | refine Ext.gr ?_ _ | refine Ext.set ?_ (by simp) _ | (refine Ext.trans' ?_ (by assumption))))))) (fun _ _ h => h.1) fun _ g5 hgr hr => ?_
  obtain ⟨-, u, rfl, hU⟩ := hr
  clear hgr
  obtain ⟨ua, uc, rfl, -, -, -⟩ := divs_spec hU
  have HU := Lib.hid hU
  clear hU

  go_wp2_with fail
  refine callWR (W0 := W0) (g := g5) (by exact (by repeat (first | exact Below.refl _ _ | refine Ext.al ?_ _ | refine Ext.dr ?_ | refine Ext.drN ?_ _ | refine Ext.gr ?_ _ | refine Ext.set ?_ (by simp) _ | (refine Ext.trans' ?_ (by assumption))))) (T2.out _ (HS.out.ext (by exact (by repeat (first | exact Below.refl _ _ | refine Ext.al ?_ _ | refine Ext.dr ?_ | refine Ext.drN ?_ _ | refine Ext.gr ?_ _ | refine Ext.set ?_ (by simp) _ | (refine Ext.trans' ?_ (by assumption)))))) (HFW.out.ext (by exact (by repeat (first | exact Below.refl _ _ | refine Ext.al ?_ _ | refine Ext.dr ?_ | refine Ext.drN ?_ _ | refine Ext.gr ?_ _ | refine Ext.set ?_ (by simp) _ | (refine Ext.trans' ?_ (by assumption))))))) (fun _ _ h => h.1) fun _ g6 hgr hr => ?_
  obtain ⟨-, v, rfl, hV⟩ := hr
  replace HU := Lib.hid (HU.out.ext hgr)
  clear hgr
  obtain ⟨va, vc, rfl, -, -, -⟩ := divs_spec hV
  have HV := Lib.hid hV
  clear hV

  go_wp2_with fail
  refine callW (W0 := W0) (g := g6) (by exact (by repeat (first | exact Below.refl _ _ | refine Ext.al ?_ _ | refine Ext.dr ?_ | refine Ext.drN ?_ _ | refine Ext.gr ?_ _ | refine Ext.set ?_ (by simp) _ | (refine Ext.trans' ?_ (by assumption))))) (T3.out _ (HS.out.ext (by exact (by repeat (first | exact Below.refl _ _ | refine Ext.al ?_ _ | refine Ext.dr ?_ | refine Ext.drN ?_ _ | refine Ext.gr ?_ _ | refine Ext.set ?_ (by simp) _ | (refine Ext.trans' ?_ (by assumption)))))) (HFW.out.ext (by exact (by repeat (first | exact Below.refl _ _ | refine Ext.al ?_ _ | refine Ext.dr ?_ | refine Ext.drN ?_ _ | refine Ext.gr ?_ _ | refine Ext.set ?_ (by simp) _ | (refine Ext.trans' ?_ (by assumption))))))) fun g7 hgr => ?_
  replace HU := Lib.hid (HU.out.ext hgr)
  replace HV := Lib.hid (HV.out.ext hgr)
  clear hgr
  go_upto_region 6 with (fail)
  obtain ⟨U1, hU1⟩ : ∃ zz9, zz9 = (grow W0 g7).alloc (.cells #[.int .i64 A.i, .int .i64 A.k, .int .i64 A.d, .int .i64 A.p, .int .i64 A.q, .int .i64 A.o] 48) := ⟨_, rfl⟩
  have a0 : U1.cell? ⟨(grow W0 g7).heap.size, 0, none⟩ = some (.int .i64 A.i) := by rw [hU1]; simp [go_sem]
  have a1 : U1.cell? ⟨(grow W0 g7).heap.size, 1, none⟩ = some (.int .i64 A.k) := by rw [hU1]; simp [go_sem]
  have a2 : U1.cell? ⟨(grow W0 g7).heap.size, 2, none⟩ = some (.int .i64 A.d) := by rw [hU1]; simp [go_sem]
  have a3 : U1.cell? ⟨(grow W0 g7).heap.size, 3, none⟩ = some (.int .i64 A.p) := by rw [hU1]; simp [go_sem]
  have a4 : U1.cell? ⟨(grow W0 g7).heap.size, 4, none⟩ = some (.int .i64 A.q) := by rw [hU1]; simp [go_sem]
  have a5 : U1.cell? ⟨(grow W0 g7).heap.size, 5, none⟩ = some (.int .i64 A.o) := by rw [hU1]; simp [go_sem]
  have eU1 : Ext W0 U1 := by rw [hU1]; exact (by repeat (first | exact Below.refl _ _ | refine Ext.al ?_ _ | refine Ext.dr ?_ | refine Ext.drN ?_ _ | refine Ext.gr ?_ _ | refine Ext.set ?_ (by simp) _ | (refine Ext.trans' ?_ (by assumption))))
  have eU1c : Ext (grow W0 g7) U1 := by rw [hU1]; exact (by repeat (first | exact Below.refl _ _ | refine Ext.al ?_ _ | refine Ext.dr ?_ | refine Ext.drN ?_ _ | refine Ext.gr ?_ _ | refine Ext.set ?_ (by simp) _ | (refine Ext.trans' ?_ (by assumption))))
  replace k0 := cell_ext eU1 k0
  replace k1 := cell_ext eU1 k1
  replace k2 := cell_ext eU1 k2
  replace k3 := cell_ext eU1 k3
  replace k4 := cell_ext eU1 k4
  replace k5 := cell_ext eU1 k5
  replace k6 := cell_ext eU1 k6
  replace k7 := cell_ext eU1 k7
  replace HS := Lib.hid (HS.out.ext eU1)
  replace HFW := Lib.hid (HFW.out.ext eU1)
  replace HU := Lib.hid (HU.out.ext eU1c)
  replace HV := Lib.hid (HV.out.ext eU1c)
  replace HW := Lib.hid (HW.out.trans' eU1)
  rw [← hU1]
  obtain ⟨qa, hqa⟩ : ∃ b, b = (grow W0 g7).heap.size := ⟨_, rfl⟩
  rw [← hqa] at a0 a1 a2 a3 a4 a5 ⊢
  replace hz := World.block_lt_of_cell? _ _ k0
  have zqa := World.block_lt_of_cell? _ _ a0
  simp only at zqa
  clear hU1 eU1 eU1c hqa
  go_wp2_with fail
  refine callW (W0 := U1) (g := ⟨U1, Below.refl _ _⟩) (by exact (by repeat (first | exact Below.refl _ _ | refine Ext.al ?_ _ | refine Ext.dr ?_ | refine Ext.drN ?_ _ | refine Ext.gr ?_ _ | refine Ext.set ?_ (by simp) _ | (refine Ext.trans' ?_ (by assumption))))) (T4.out _ (HS.out.ext (by exact (by repeat (first | exact Below.refl _ _ | refine Ext.al ?_ _ | refine Ext.dr ?_ | refine Ext.drN ?_ _ | refine Ext.gr ?_ _ | refine Ext.set ?_ (by simp) _ | (refine Ext.trans' ?_ (by assumption)))))) (HFW.out.ext (by exact (by repeat (first | exact Below.refl _ _ | refine Ext.al ?_ _ | refine Ext.dr ?_ | refine Ext.drN ?_ _ | refine Ext.gr ?_ _ | refine Ext.set ?_ (by simp) _ | (refine Ext.trans' ?_ (by assumption))))))) fun g8 hgr => ?_
  clear hgr
  go_upto_region 7 with (fail)
  obtain ⟨U2, hU2⟩ : ∃ zz9, zz9 = (grow U1 g8).alloc (.cells #[.int .i64 A.i, .int .i64 A.k, .int .i64 A.d, .int .i64 A.p, .int .i64 A.q, .int .i64 A.o] 48) := ⟨_, rfl⟩
  have c0 : U2.cell? ⟨(grow U1 g8).heap.size, 0, none⟩ = some (.int .i64 A.i) := by rw [hU2]; simp [go_sem]
  have c1 : U2.cell? ⟨(grow U1 g8).heap.size, 1, none⟩ = some (.int .i64 A.k) := by rw [hU2]; simp [go_sem]
  have c2 : U2.cell? ⟨(grow U1 g8).heap.size, 2, none⟩ = some (.int .i64 A.d) := by rw [hU2]; simp [go_sem]
  have c3 : U2.cell? ⟨(grow U1 g8).heap.size, 3, none⟩ = some (.int .i64 A.p) := by rw [hU2]; simp [go_sem]
  have c4 : U2.cell? ⟨(grow U1 g8).heap.size, 4, none⟩ = some (.int .i64 A.q) := by rw [hU2]; simp [go_sem]
  have c5 : U2.cell? ⟨(grow U1 g8).heap.size, 5, none⟩ = some (.int .i64 A.o) := by rw [hU2]; simp [go_sem]
  have eU2 : Ext U1 U2 := by rw [hU2]; exact (by repeat (first | exact Below.refl _ _ | refine Ext.al ?_ _ | refine Ext.dr ?_ | refine Ext.drN ?_ _ | refine Ext.gr ?_ _ | refine Ext.set ?_ (by simp) _ | (refine Ext.trans' ?_ (by assumption))))
  replace k0 := cell_ext eU2 k0
  replace k1 := cell_ext eU2 k1
  replace k2 := cell_ext eU2 k2
  replace k3 := cell_ext eU2 k3
  replace k4 := cell_ext eU2 k4
  replace k5 := cell_ext eU2 k5
  replace k6 := cell_ext eU2 k6
  replace k7 := cell_ext eU2 k7
  replace a0 := cell_ext eU2 a0
  replace a1 := cell_ext eU2 a1
  replace a2 := cell_ext eU2 a2
  replace a3 := cell_ext eU2 a3
  replace a4 := cell_ext eU2 a4
  replace a5 := cell_ext eU2 a5
  replace HS := Lib.hid (HS.out.ext eU2)
  replace HFW := Lib.hid (HFW.out.ext eU2)
  replace HU := Lib.hid (HU.out.ext eU2)
  replace HV := Lib.hid (HV.out.ext eU2)
  replace HW := Lib.hid (HW.out.trans' eU2)
  rw [← hU2]
  obtain ⟨qb, hqb⟩ : ∃ b, b = (grow U1 g8).heap.size := ⟨_, rfl⟩
  rw [← hqb] at c0 c1 c2 c3 c4 c5 ⊢
  replace hz := World.block_lt_of_cell? _ _ k0
  replace zqa := World.block_lt_of_cell? _ _ a0
  have zqb := World.block_lt_of_cell? _ _ c0
  simp only at zqb
  clear hU2 eU2 hqb
  go_wp2_with fail
  refine callW (W0 := U2) (g := ⟨U2, Below.refl _ _⟩) (by exact (by repeat (first | exact Below.refl _ _ | refine Ext.al ?_ _ | refine Ext.dr ?_ | refine Ext.drN ?_ _ | refine Ext.gr ?_ _ | refine Ext.set ?_ (by simp) _ | (refine Ext.trans' ?_ (by assumption))))) (T5.out _ (HS.out.ext (by exact (by repeat (first | exact Below.refl _ _ | refine Ext.al ?_ _ | refine Ext.dr ?_ | refine Ext.drN ?_ _ | refine Ext.gr ?_ _ | refine Ext.set ?_ (by simp) _ | (refine Ext.trans' ?_ (by assumption)))))) (HFW.out.ext (by exact (by repeat (first | exact Below.refl _ _ | refine Ext.al ?_ _ | refine Ext.dr ?_ | refine Ext.drN ?_ _ | refine Ext.gr ?_ _ | refine Ext.set ?_ (by simp) _ | (refine Ext.trans' ?_ (by assumption))))))) fun g9 hgr => ?_
  clear hgr
  go_wp2_with fail
  refine callW (W0 := U2) (g := g9) (by exact (by repeat (first | exact Below.refl _ _ | refine Ext.al ?_ _ | refine Ext.dr ?_ | refine Ext.drN ?_ _ | refine Ext.gr ?_ _ | refine Ext.set ?_ (by simp) _ | (refine Ext.trans' ?_ (by assumption))))) (T6.out _ (HS.out.ext (by exact (by repeat (first | exact Below.refl _ _ | refine Ext.al ?_ _ | refine Ext.dr ?_ | refine Ext.drN ?_ _ | refine Ext.gr ?_ _ | refine Ext.set ?_ (by simp) _ | (refine Ext.trans' ?_ (by assumption)))))) (HFW.out.ext (by exact (by repeat (first | exact Below.refl _ _ | refine Ext.al ?_ _ | refine Ext.dr ?_ | refine Ext.drN ?_ _ | refine Ext.gr ?_ _ | refine Ext.set ?_ (by simp) _ | (refine Ext.trans' ?_ (by assumption))))))) fun g10 hgr => ?_
  clear hgr
  have t7 := fun w h1 h2 => dvdsL_any L L (.slice ua L.length uc) (.slice va L.length vc) w h1 h2
  rw [decide_eq_true rfl] at t7
  have T7 := Lib.hid t7
  clear t7
  go_wp2_with fail
  refine callW (W0 := U2) (g := g10) (by exact (by repeat (first | exact Below.refl _ _ | refine Ext.al ?_ _ | refine Ext.dr ?_ | refine Ext.drN ?_ _ | refine Ext.gr ?_ _ | refine Ext.set ?_ (by simp) _ | (refine Ext.trans' ?_ (by assumption))))) (T7.out _ (HU.out.ext (by exact (by repeat (first | exact Below.refl _ _ | refine Ext.al ?_ _ | refine Ext.dr ?_ | refine Ext.drN ?_ _ | refine Ext.gr ?_ _ | refine Ext.set ?_ (by simp) _ | (refine Ext.trans' ?_ (by assumption)))))) (HV.out.ext (by exact (by repeat (first | exact Below.refl _ _ | refine Ext.al ?_ _ | refine Ext.dr ?_ | refine Ext.drN ?_ _ | refine Ext.gr ?_ _ | refine Ext.set ?_ (by simp) _ | (refine Ext.trans' ?_ (by assumption))))))) fun g11 hgr => ?_
  clear hgr
  go_wp2_with fail
  refine callW (W0 := U2) (g := g11) (by exact (by repeat (first | exact Below.refl _ _ | refine Ext.al ?_ _ | refine Ext.dr ?_ | refine Ext.drN ?_ _ | refine Ext.gr ?_ _ | refine Ext.set ?_ (by simp) _ | (refine Ext.trans' ?_ (by assumption))))) (worksL_any _) fun g12 hgr => ?_
  clear hgr
  go_wp2_with fail
  go_ret
  exact ⟨rfl, HW.out.trans' (grow_below U2 _)⟩
end Go.Proofs.Ytphajlldghcnnaa
namespace Go.Proofs.Ytphajlldghcnnaa
open Go.RowKit
open Go.ChangeShapes Go.WideShapes Go.ChangeAt in
set_option maxRecDepth 100000 in
theorem poolPays_lifted (os : Os) (started : os.Started) (H : Type) (enc : TypeId × Value → H) :
    ReturnsInHanded {} Try.checked os 5 .any (Rows.poolPaysSpec.pre6 enc Try.prog Try.f5 Rows.poolPaysRow.domain false) (Rows.poolPaysSpec.post enc Try.prog Try.f5 false true false false) := by
  refine returnsInHanded_of_change (C := Try.checked) own started (by kernel_rfl) Try.func5
    (ChangeSpec.witness6 (enc := enc) (C := Try.checked) false ⟨#[], #[.agg #[.int .i64 0, .int .i64 0, .slice none 0 0, .slice none 0 0, .bool false, .int .i64 0, .int .i64 0, .int .i64 0], .slice none 0 0, .int .i64 0], []⟩ 8 (by kernel_rfl) (by kernel_rfl) (by kernel_rfl) (by kernel_rfl)) ?_
  intro W base args ds gs before hval0 hW hcnd _
  have hval : ∀ (j : Nat) t v, Try.f5.params[j]? = some t → args[j]? = some v → Value.okWide Try.prog W .any base t v := hval0
  have hW' := hW
  obtain ⟨p, q, hA0, hV, rfl, hfz, hnd⟩ := hW
  have hA : DataW.TrodAll enc Try.prog W 0 (fun _ => true) true Try.f5.params.toList args.toList ds p := hA0
  rw [Try.params5] at hA hval
  obtain ⟨v0, vs0, d0, ds0, p0, q0, hargs, rfl, rfl, h0, r0⟩ := trodAll_cons hA
  obtain ⟨v1, vs1, d1, ds1, p1, q1, rfl, rfl, rfl, h1, r1⟩ := trodAll_cons r0
  obtain ⟨v2, vs2, d2, ds2, p2, q2, rfl, rfl, rfl, h2, r2⟩ := trodAll_cons r1
  obtain ⟨rfl, rfl, rfl⟩ := trodAll_nil r2
  obtain rfl : args = #[v0, v1, v2] := by cases args; simp_all
  obtain ⟨b, ba, bs, bc, bd, rfl, hb⟩ := openBook (hval 0 25 v0 rfl rfl) h0
  obtain ⟨f, hf⟩ := openFin (hval 1 36 v1 rfl rfl) h1
  obtain ⟨q, rfl, rfl, rfl, wq⟩ := open_int Try.underlying3 (hval 2 3 v2 rfl rfl) h2
  clear hA0 hval0
  refine (poolPays_any b ba bs bc bd v1 f q W hb hf).mono fun e W' ⟨he, hb⟩ => ?_
  subst he
  exact ⟨_, rfl, law_post laidOut (tb := 4) (hts_of (by kernel_rfl)) (by kernel_rfl) Try.underlying4 hW' rfl rfl hb⟩
theorem poolPays_holds : Rows.PoolPaysSaid :=
  OpenClaim.holds_of_wide 5 Try.f5 rfl rfl rfl rfl rfl rfl rfl ⟨rfl, rfl, rfl, rfl, rfl⟩ rfl rfl rfl rfl rfl (by kernel_rfl) Try.func5 (by kernel_rfl)
    (of_decide_eq_true (by kernel_rfl)) (by unfold Func.isWrapper; first | (rw [if_pos (by decide +kernel)]; kernel_rfl) | (rw [if_neg (by decide +kernel)]; exact ⟨rfl, rfl⟩))
    (fun os started H enc _ => poolPays_lifted os started H enc)
end Go.Proofs.Ytphajlldghcnnaa
