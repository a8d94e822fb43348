/-
  The statement PoolBooks holds: which books are valid, what they are with a runner scratched, and the favourite; for every book and runner that are handed in. No condition.
-/
import Derived.Test.YtphajlldghcnnaaPr
import Derived.Test.YtphajlldghcnnaaPn
namespace Go.Proofs.Ytphajlldghcnnaa
open Go.RowKit Go.Shelf
def zeroB : Bk := ⟨0, 0, [], [], false, 0, 0, 0⟩
def scrX (b : Bk) (r : Int) : Bk := if scrErr b r = 0 then scrP b r else zeroB
def RetScrX (w : World) (b : Bk) (r : Int) (e : Ending) (w' : World) : Prop :=
  Ext w w' ∧ ∃ (ba sa : Option Addr) (bcap scap : Nat), e = .returned (.tuple #[bookV (scrX b r) ba bcap sa scap, .int .i64 (scrErr b r)]) ∧ IsBook w' (scrX b r) ba bcap sa scap
theorem retScr_x {w : World} {b : Bk} {r : Int} {e : Ending} {w' : World} (h : RetScr w b r e w') : RetScrX w b r e w' := by
  obtain ⟨h1, ⟨hne, rfl⟩ | ⟨h0, ba, sa, bc, sc, rfl, hI⟩⟩ := h
  · refine ⟨h1, none, none, 0, 0, ?_, ?_⟩
    · unfold scrX; rw [if_neg hne]; rfl
    · unfold scrX; rw [if_neg hne]
      exact ⟨⟨none, 0, rfl, by simp [zeroB], by omega, .inl rfl⟩, ⟨none, 0, rfl, by simp [zeroB], by omega, .inl rfl⟩⟩
  · refine ⟨h1, ba, sa, bc, sc, ?_, ?_⟩
    · unfold scrX; rw [if_pos h0, h0]
    · unfold scrX; rw [if_pos h0]; exact hI
set_option maxRecDepth 200000 in
set_option maxHeartbeats 8000000 in
theorem poolBooks_any (b : Bk) (ba sa : Option Addr) (bcap scap : Nat) (r : Int) (w : World) (hv : IsBook w b ba bcap sa scap) : Calls Try.prog 3 #[.agg #[.int .i64 b.kd, .int .i64 b.n, .slice ba b.bets.length bcap, .slice sa b.scr.length scap, .bool b.fav, .int .i64 b.car, .int .i64 b.duty, .int .i64 b.step], .int .i64 r] w fun e w' => e = .returned (.bool true) ∧ Ext w w' := by
  have HV := Lib.hid hv
  clear hv
  go_enter Try.func3, Try.ntmps3
  go_upto_region 1 with (fail)
  obtain ⟨W0, hW0⟩ : ∃ W0, W0 = w.alloc (.cells #[.int .i64 b.kd, .int .i64 b.n, .slice ba b.bets.length bcap, .slice sa b.scr.length scap, .bool b.fav, .int .i64 b.car, .int .i64 b.duty, .int .i64 b.step] 25) := ⟨_, rfl⟩
  have hE : Ext w W0 := by rw [hW0]; exact (by repeat (first | exact Below.refl _ _ | refine Ext.al ?_ _ | refine Ext.dr ?_ | refine Ext.drN ?_ _ | refine Ext.gr ?_ _ | refine Ext.set ?_ (by simp) _ | (refine Ext.trans' ?_ (by assumption))))
  have k0 : W0.cell? ⟨w.heap.size, 0, none⟩ = some (.int .i64 b.kd) := by rw [hW0]; simp [go_sem]
  have k1 : W0.cell? ⟨w.heap.size, 1, none⟩ = some (.int .i64 b.n) := by rw [hW0]; simp [go_sem]
  have k2 : W0.cell? ⟨w.heap.size, 2, none⟩ = some (.slice ba b.bets.length bcap) := by rw [hW0]; simp [go_sem]
  have k3 : W0.cell? ⟨w.heap.size, 3, none⟩ = some (.slice sa b.scr.length scap) := by rw [hW0]; simp [go_sem]
  have k4 : W0.cell? ⟨w.heap.size, 4, none⟩ = some (.bool b.fav) := by rw [hW0]; simp [go_sem]
  have k5 : W0.cell? ⟨w.heap.size, 5, none⟩ = some (.int .i64 b.car) := by rw [hW0]; simp [go_sem]
  have k6 : W0.cell? ⟨w.heap.size, 6, none⟩ = some (.int .i64 b.duty) := by rw [hW0]; simp [go_sem]
  have k7 : W0.cell? ⟨w.heap.size, 7, none⟩ = some (.int .i64 b.step) := by rw [hW0]; simp [go_sem]
  have hz : w.heap.size < W0.heap.size := World.block_lt_of_cell? _ _ k0
  have HS := Lib.hid (HV.out.ext hE)
  have HW := Lib.hid hE
  rw [← hW0]
  clear hW0 HV
  clear hE




  go_wp2_with fail
  refine callW (W0 := W0) (g := ⟨W0, Below.refl _ _⟩) (by exact (by repeat (first | exact Below.refl _ _ | refine Ext.al ?_ _ | refine Ext.dr ?_ | refine Ext.drN ?_ _ | refine Ext.gr ?_ _ | refine Ext.set ?_ (by simp) _ | (refine Ext.trans' ?_ (by assumption))))) (greatL_any b ba sa bcap scap _) fun g1 hgr => ?_
  clear hgr
  cases hg : greatB b
  rotate_left
  · skip

    go_wp2_with fail
    refine callW (W0 := W0) (g := g1) (by exact (by repeat (first | exact Below.refl _ _ | refine Ext.al ?_ _ | refine Ext.dr ?_ | refine Ext.drN ?_ _ | refine Ext.gr ?_ _ | refine Ext.set ?_ (by simp) _ | (refine Ext.trans' ?_ (by assumption))))) (worksL_any _) fun g2 hgr => ?_
    clear hgr
    go_wp2_with fail
    go_ret
    exact ⟨rfl, HW.out.trans' (grow_below W0 _)⟩

  clear hg
  obtain ⟨X, hX⟩ : ∃ X, X = scrX b r := ⟨_, rfl⟩
  obtain ⟨er, her⟩ : ∃ er, er = scrErr b r := ⟨_, rfl⟩
  have t1 := fun w h => (scratch_any r b ba sa bcap scap w h).mono fun e w' => retScr_x
  have t2 := fun w h => (refScr_any r b ba sa bcap scap w h).mono fun e w' => retScr_x
  unfold RetScrX at t1 t2
  rw [← hX, ← her] at t1 t2
  have T1 := Lib.hid t1
  have T2 := Lib.hid t2
  clear t1 t2 hX her
  go_wp2_with fail
  refine callWR (W0 := W0) (g := g1) (by exact (by repeat (first | exact Below.refl _ _ | refine Ext.al ?_ _ | refine Ext.dr ?_ | refine Ext.drN ?_ _ | refine Ext.gr ?_ _ | refine Ext.set ?_ (by simp) _ | (refine Ext.trans' ?_ (by assumption))))) (T1.out _ (HS.out.ext (by exact (by repeat (first | exact Below.refl _ _ | refine Ext.al ?_ _ | refine Ext.dr ?_ | refine Ext.drN ?_ _ | refine Ext.gr ?_ _ | refine Ext.set ?_ (by simp) _ | (refine Ext.trans' ?_ (by assumption))))))) (fun _ _ h => h.1) fun _ g3 hgr hr => ?_
  obtain ⟨-, xa, xs, xc, xd, rfl, hI⟩ := hr
  clear hgr
  simp only [bookV]
  have HX := Lib.hid hI
  clear hI

  go_upto_region 4 with (fail)
  obtain ⟨U, hU⟩ : ∃ zz9, zz9 = (grow W0 g3).alloc (.cells #[.int .i64 X.kd, .int .i64 X.n, .slice xa X.bets.length xc, .slice xs X.scr.length xd, .bool X.fav, .int .i64 X.car, .int .i64 X.duty, .int .i64 X.step] 25) := ⟨_, rfl⟩
  have x0 : U.cell? ⟨(grow W0 g3).heap.size, 0, none⟩ = some (.int .i64 X.kd) := by rw [hU]; simp [go_sem]
  have x1 : U.cell? ⟨(grow W0 g3).heap.size, 1, none⟩ = some (.int .i64 X.n) := by rw [hU]; simp [go_sem]
  have x2 : U.cell? ⟨(grow W0 g3).heap.size, 2, none⟩ = some (.slice xa X.bets.length xc) := by rw [hU]; simp [go_sem]
  have x3 : U.cell? ⟨(grow W0 g3).heap.size, 3, none⟩ = some (.slice xs X.scr.length xd) := by rw [hU]; simp [go_sem]
  have x4 : U.cell? ⟨(grow W0 g3).heap.size, 4, none⟩ = some (.bool X.fav) := by rw [hU]; simp [go_sem]
  have x5 : U.cell? ⟨(grow W0 g3).heap.size, 5, none⟩ = some (.int .i64 X.car) := by rw [hU]; simp [go_sem]
  have x6 : U.cell? ⟨(grow W0 g3).heap.size, 6, none⟩ = some (.int .i64 X.duty) := by rw [hU]; simp [go_sem]
  have x7 : U.cell? ⟨(grow W0 g3).heap.size, 7, none⟩ = some (.int .i64 X.step) := by rw [hU]; simp [go_sem]
  have eU : Ext W0 U := by rw [hU]; exact (by repeat (first | exact Below.refl _ _ | refine Ext.al ?_ _ | refine Ext.dr ?_ | refine Ext.drN ?_ _ | refine Ext.gr ?_ _ | refine Ext.set ?_ (by simp) _ | (refine Ext.trans' ?_ (by assumption))))
  have eUc : Ext (grow W0 g3) U := by rw [hU]; exact (by repeat (first | exact Below.refl _ _ | refine Ext.al ?_ _ | refine Ext.dr ?_ | refine Ext.drN ?_ _ | refine Ext.gr ?_ _ | refine Ext.set ?_ (by simp) _ | (refine Ext.trans' ?_ (by assumption))))
  replace k0 := cell_ext eU k0
  replace k1 := cell_ext eU k1
  replace k2 := cell_ext eU k2
  replace k3 := cell_ext eU k3
  replace k4 := cell_ext eU k4
  replace k5 := cell_ext eU k5
  replace k6 := cell_ext eU k6
  replace k7 := cell_ext eU k7
  replace HS := Lib.hid (HS.out.ext eU)
  replace HX := Lib.hid (HX.out.ext eUc)
  replace HW := Lib.hid (HW.out.trans' eU)
  rw [← hU]
  obtain ⟨qx, hqx⟩ : ∃ b, b = (grow W0 g3).heap.size := ⟨_, rfl⟩
  rw [← hqx] at x0 x1 x2 x3 x4 x5 x6 x7 ⊢
  replace hz := World.block_lt_of_cell? _ _ k0
  have zqx := World.block_lt_of_cell? _ _ x0
  simp only at zqx
  clear hU eU eUc hqx
  go_wp2_with fail
  refine callWR (W0 := U) (g := ⟨U, Below.refl _ _⟩) (by exact (by repeat (first | exact Below.refl _ _ | refine Ext.al ?_ _ | refine Ext.dr ?_ | refine Ext.drN ?_ _ | refine Ext.gr ?_ _ | refine Ext.set ?_ (by simp) _ | (refine Ext.trans' ?_ (by assumption))))) (T2.out _ (HS.out.ext (by exact (by repeat (first | exact Below.refl _ _ | refine Ext.al ?_ _ | refine Ext.dr ?_ | refine Ext.drN ?_ _ | refine Ext.gr ?_ _ | refine Ext.set ?_ (by simp) _ | (refine Ext.trans' ?_ (by assumption))))))) (fun _ _ h => h.1) fun _ g4 hgr hr => ?_
  obtain ⟨-, ya, ys, yc, yd, rfl, hI⟩ := hr
  clear hgr
  simp only [bookV]
  have HY := Lib.hid hI
  clear hI

  go_upto_region 5 with (fail)
  obtain ⟨U2, hU2⟩ : ∃ zz9, zz9 = (grow U g4).alloc (.cells #[.int .i64 X.kd, .int .i64 X.n, .slice ya X.bets.length yc, .slice ys X.scr.length yd, .bool X.fav, .int .i64 X.car, .int .i64 X.duty, .int .i64 X.step] 25) := ⟨_, rfl⟩
  have y0 : U2.cell? ⟨(grow U g4).heap.size, 0, none⟩ = some (.int .i64 X.kd) := by rw [hU2]; simp [go_sem]
  have y1 : U2.cell? ⟨(grow U g4).heap.size, 1, none⟩ = some (.int .i64 X.n) := by rw [hU2]; simp [go_sem]
  have y2 : U2.cell? ⟨(grow U g4).heap.size, 2, none⟩ = some (.slice ya X.bets.length yc) := by rw [hU2]; simp [go_sem]
  have y3 : U2.cell? ⟨(grow U g4).heap.size, 3, none⟩ = some (.slice ys X.scr.length yd) := by rw [hU2]; simp [go_sem]
  have y4 : U2.cell? ⟨(grow U g4).heap.size, 4, none⟩ = some (.bool X.fav) := by rw [hU2]; simp [go_sem]
  have y5 : U2.cell? ⟨(grow U g4).heap.size, 5, none⟩ = some (.int .i64 X.car) := by rw [hU2]; simp [go_sem]
  have y6 : U2.cell? ⟨(grow U g4).heap.size, 6, none⟩ = some (.int .i64 X.duty) := by rw [hU2]; simp [go_sem]
  have y7 : U2.cell? ⟨(grow U g4).heap.size, 7, none⟩ = some (.int .i64 X.step) := by rw [hU2]; simp [go_sem]
  have eU2 : Ext U U2 := by rw [hU2]; exact (by repeat (first | exact Below.refl _ _ | refine Ext.al ?_ _ | refine Ext.dr ?_ | refine Ext.drN ?_ _ | refine Ext.gr ?_ _ | refine Ext.set ?_ (by simp) _ | (refine Ext.trans' ?_ (by assumption))))
  have eU2c : Ext (grow U g4) U2 := by rw [hU2]; exact (by repeat (first | exact Below.refl _ _ | refine Ext.al ?_ _ | refine Ext.dr ?_ | refine Ext.drN ?_ _ | refine Ext.gr ?_ _ | refine Ext.set ?_ (by simp) _ | (refine Ext.trans' ?_ (by assumption))))
  replace k0 := cell_ext eU2 k0
  replace k1 := cell_ext eU2 k1
  replace k2 := cell_ext eU2 k2
  replace k3 := cell_ext eU2 k3
  replace k4 := cell_ext eU2 k4
  replace k5 := cell_ext eU2 k5
  replace k6 := cell_ext eU2 k6
  replace k7 := cell_ext eU2 k7
  replace x0 := cell_ext eU2 x0
  replace x1 := cell_ext eU2 x1
  replace x2 := cell_ext eU2 x2
  replace x3 := cell_ext eU2 x3
  replace x4 := cell_ext eU2 x4
  replace x5 := cell_ext eU2 x5
  replace x6 := cell_ext eU2 x6
  replace x7 := cell_ext eU2 x7
  replace HS := Lib.hid (HS.out.ext eU2)
  replace HX := Lib.hid (HX.out.ext eU2)
  replace HY := Lib.hid (HY.out.ext eU2c)
  replace HW := Lib.hid (HW.out.trans' eU2)
  rw [← hU2]
  obtain ⟨qy, hqy⟩ : ∃ b, b = (grow U g4).heap.size := ⟨_, rfl⟩
  rw [← hqy] at y0 y1 y2 y3 y4 y5 y6 y7 ⊢
  replace hz := World.block_lt_of_cell? _ _ k0
  replace zqx := World.block_lt_of_cell? _ _ x0
  have zqy := World.block_lt_of_cell? _ _ y0
  simp only at zqy
  clear hU2 eU2 eU2c hqy
  go_wp2_with fail
  refine callW (W0 := U2) (g := ⟨U2, Below.refl _ _⟩) (by exact (by repeat (first | exact Below.refl _ _ | refine Ext.al ?_ _ | refine Ext.dr ?_ | refine Ext.drN ?_ _ | refine Ext.gr ?_ _ | refine Ext.set ?_ (by simp) _ | (refine Ext.trans' ?_ (by assumption))))) (favourite_any b ba sa bcap scap _ (HS.out.ext (by exact (by repeat (first | exact Below.refl _ _ | refine Ext.al ?_ _ | refine Ext.dr ?_ | refine Ext.drN ?_ _ | refine Ext.gr ?_ _ | refine Ext.set ?_ (by simp) _ | (refine Ext.trans' ?_ (by assumption))))))) fun g5 hgr => ?_
  clear hgr
  go_wp2_with fail
  refine callW (W0 := U2) (g := g5) (by exact (by repeat (first | exact Below.refl _ _ | refine Ext.al ?_ _ | refine Ext.dr ?_ | refine Ext.drN ?_ _ | refine Ext.gr ?_ _ | refine Ext.set ?_ (by simp) _ | (refine Ext.trans' ?_ (by assumption))))) (refFav_any b ba sa bcap scap _ (HS.out.ext (by exact (by repeat (first | exact Below.refl _ _ | refine Ext.al ?_ _ | refine Ext.dr ?_ | refine Ext.drN ?_ _ | refine Ext.gr ?_ _ | refine Ext.set ?_ (by simp) _ | (refine Ext.trans' ?_ (by assumption))))))) fun g6 hgr => ?_
  clear hgr
  go_upto_region 7 with (fail)
  obtain ⟨U3, hU3⟩ : ∃ zz9, zz9 = (grow U2 g6) := ⟨_, rfl⟩
  have eU3 : Ext U2 U3 := by rw [hU3]; exact (by repeat (first | exact Below.refl _ _ | refine Ext.al ?_ _ | refine Ext.dr ?_ | refine Ext.drN ?_ _ | refine Ext.gr ?_ _ | refine Ext.set ?_ (by simp) _ | (refine Ext.trans' ?_ (by assumption))))
  replace k0 := cell_ext eU3 k0
  replace k1 := cell_ext eU3 k1
  replace k2 := cell_ext eU3 k2
  replace k3 := cell_ext eU3 k3
  replace k4 := cell_ext eU3 k4
  replace k5 := cell_ext eU3 k5
  replace k6 := cell_ext eU3 k6
  replace k7 := cell_ext eU3 k7
  replace x0 := cell_ext eU3 x0
  replace x1 := cell_ext eU3 x1
  replace x2 := cell_ext eU3 x2
  replace x3 := cell_ext eU3 x3
  replace x4 := cell_ext eU3 x4
  replace x5 := cell_ext eU3 x5
  replace x6 := cell_ext eU3 x6
  replace x7 := cell_ext eU3 x7
  replace y0 := cell_ext eU3 y0
  replace y1 := cell_ext eU3 y1
  replace y2 := cell_ext eU3 y2
  replace y3 := cell_ext eU3 y3
  replace y4 := cell_ext eU3 y4
  replace y5 := cell_ext eU3 y5
  replace y6 := cell_ext eU3 y6
  replace y7 := cell_ext eU3 y7
  replace HS := Lib.hid (HS.out.ext eU3)
  replace HX := Lib.hid (HX.out.ext eU3)
  replace HY := Lib.hid (HY.out.ext eU3)
  replace HW := Lib.hid (HW.out.trans' eU3)
  rw [← hU3]
  replace hz := World.block_lt_of_cell? _ _ k0
  replace zqx := World.block_lt_of_cell? _ _ x0
  replace zqy := World.block_lt_of_cell? _ _ y0
  clear hU3 eU3
  obtain ⟨ce, hce⟩ : ∃ ce, ce = bkErr b := ⟨_, rfl⟩
  obtain ⟨fa, hfa⟩ : ∃ fa, fa = favA b := ⟨_, rfl⟩
  rw [← hce, ← hfa]
  have t1 := fun w h => checkBook_any b ba sa bcap scap w h
  have t2 := fun w h => refCheck_any b ba sa bcap scap w h
  have t3 := fun w h1 h2 => sameL_any X xa xs ya ys xc xd yc yd w h1 h2
  rw [← hce] at t1 t2
  replace T1 := Lib.hid t1
  replace T2 := Lib.hid t2
  have T3 := Lib.hid t3
  clear t1 t2 t3 hce hfa
  refine wp_region_grow (by kernel_rfl) (by kernel_rfl) ?_
  repeat (first | go_big_quiet_step ((first | (go_at_call 23; exact grow_call (T1.out _ (HS.out.ext (by exact (by repeat (first | exact Below.refl _ _ | refine Ext.al ?_ _ | refine Ext.dr ?_ | refine Ext.drN ?_ _ | refine Ext.gr ?_ _ | refine Ext.set ?_ (by simp) _ | (refine Ext.trans' ?_ (by assumption)))))))) | (go_at_call 24; exact grow_call (T2.out _ (HS.out.ext (by exact (by repeat (first | exact Below.refl _ _ | refine Ext.al ?_ _ | refine Ext.dr ?_ | refine Ext.drN ?_ _ | refine Ext.gr ?_ _ | refine Ext.set ?_ (by simp) _ | (refine Ext.trans' ?_ (by assumption)))))))) | (go_at_call 25; exact grow_call (T3.out _ (HX.out.ext (by exact (by repeat (first | exact Below.refl _ _ | refine Ext.al ?_ _ | refine Ext.dr ?_ | refine Ext.drN ?_ _ | refine Ext.gr ?_ _ | refine Ext.set ?_ (by simp) _ | (refine Ext.trans' ?_ (by assumption)))))) (HY.out.ext (by exact (by repeat (first | exact Below.refl _ _ | refine Ext.al ?_ _ | refine Ext.dr ?_ | refine Ext.drN ?_ _ | refine Ext.gr ?_ _ | refine Ext.set ?_ (by simp) _ | (refine Ext.trans' ?_ (by assumption)))))))) | (go_at_call 18; exact grow_call (worksL_any _)))) | quiet_step ((first | (go_at_call 23; exact grow_call (T1.out _ (HS.out.ext (by exact (by repeat (first | exact Below.refl _ _ | refine Ext.al ?_ _ | refine Ext.dr ?_ | refine Ext.drN ?_ _ | refine Ext.gr ?_ _ | refine Ext.set ?_ (by simp) _ | (refine Ext.trans' ?_ (by assumption)))))))) | (go_at_call 24; exact grow_call (T2.out _ (HS.out.ext (by exact (by repeat (first | exact Below.refl _ _ | refine Ext.al ?_ _ | refine Ext.dr ?_ | refine Ext.drN ?_ _ | refine Ext.gr ?_ _ | refine Ext.set ?_ (by simp) _ | (refine Ext.trans' ?_ (by assumption)))))))) | (go_at_call 25; exact grow_call (T3.out _ (HX.out.ext (by exact (by repeat (first | exact Below.refl _ _ | refine Ext.al ?_ _ | refine Ext.dr ?_ | refine Ext.drN ?_ _ | refine Ext.gr ?_ _ | refine Ext.set ?_ (by simp) _ | (refine Ext.trans' ?_ (by assumption)))))) (HY.out.ext (by exact (by repeat (first | exact Below.refl _ _ | refine Ext.al ?_ _ | refine Ext.dr ?_ | refine Ext.drN ?_ _ | refine Ext.gr ?_ _ | refine Ext.set ?_ (by simp) _ | (refine Ext.trans' ?_ (by assumption)))))))) | (go_at_call 18; exact grow_call (worksL_any _)))))
  refine wpQuiet_nil ?_
  rintro _ ⟨g, rfl⟩
  go_wp2_with fail
  go_ret
  exact ⟨rfl, HW.out.trans' (grow_below U3 g)⟩
end Go.Proofs.Ytphajlldghcnnaa
namespace Go.Proofs.Ytphajlldghcnnaa
open Go.RowKit
open Go.ChangeShapes Go.WideShapes Go.ChangeAt in
set_option maxRecDepth 100000 in
theorem poolBooks_lifted (os : Os) (started : os.Started) (H : Type) (enc : TypeId × Value → H) :
    ReturnsInHanded {} Try.checked os 3 .any (Rows.poolBooksSpec.pre6 enc Try.prog Try.f3 Rows.poolBooksRow.domain false) (Rows.poolBooksSpec.post enc Try.prog Try.f3 false true false false) := by
  refine returnsInHanded_of_change (C := Try.checked) own started (by kernel_rfl) Try.func3
    (ChangeSpec.witness6 (enc := enc) (C := Try.checked) false ⟨#[], #[.agg #[.int .i64 0, .int .i64 0, .slice none 0 0, .slice none 0 0, .bool false, .int .i64 0, .int .i64 0, .int .i64 0], .int .i64 0], []⟩ 8 (by kernel_rfl) (by kernel_rfl) (by kernel_rfl) (by kernel_rfl)) ?_
  intro W base args ds gs before hval0 hW hcnd _
  have hval : ∀ (j : Nat) t v, Try.f3.params[j]? = some t → args[j]? = some v → Value.okWide Try.prog W .any base t v := hval0
  have hW' := hW
  obtain ⟨p, q, hA0, hV, rfl, hfz, hnd⟩ := hW
  have hA : DataW.TrodAll enc Try.prog W 0 (fun _ => true) true Try.f3.params.toList args.toList ds p := hA0
  rw [Try.params3] at hA hval
  obtain ⟨v0, vs0, d0, ds0, p0, q0, hargs, rfl, rfl, h0, r0⟩ := trodAll_cons hA
  obtain ⟨v1, vs1, d1, ds1, p1, q1, rfl, rfl, rfl, h1, r1⟩ := trodAll_cons r0
  obtain ⟨rfl, rfl, rfl⟩ := trodAll_nil r1
  obtain rfl : args = #[v0, v1] := by cases args; simp_all
  obtain ⟨b, ba, bs, bc, bd, rfl, hb⟩ := openBook (hval 0 25 v0 rfl rfl) h0
  obtain ⟨r, rfl, rfl, rfl, wr⟩ := open_int Try.underlying3 (hval 1 3 v1 rfl rfl) h1
  clear hA0 hval0
  refine (poolBooks_any b ba bs bc bd r W hb).mono fun e W' ⟨he, hb⟩ => ?_
  subst he
  exact ⟨_, rfl, law_post laidOut (tb := 4) (hts_of (by kernel_rfl)) (by kernel_rfl) Try.underlying4 hW' rfl rfl hb⟩
theorem poolBooks_holds : Rows.PoolBooksSaid :=
  OpenClaim.holds_of_wide 3 Try.f3 rfl rfl rfl rfl rfl rfl rfl ⟨rfl, rfl, rfl, rfl, rfl⟩ rfl rfl rfl rfl rfl (by kernel_rfl) Try.func3 (by kernel_rfl)
    (of_decide_eq_true (by kernel_rfl)) (by unfold Func.isWrapper; first | (rw [if_pos (by decide +kernel)]; kernel_rfl) | (rw [if_neg (by decide +kernel)]; exact ⟨rfl, rfl⟩))
    (fun os started H enc _ => poolBooks_lifted os started H enc)
end Go.Proofs.Ytphajlldghcnnaa
