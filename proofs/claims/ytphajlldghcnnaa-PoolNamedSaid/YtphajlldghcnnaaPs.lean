/-
 The reference: On.
 The reference: CheckFinish.
 Plain: the reference's winners are the program's.
 The reference: isWinner, WinnersOf, Winners.
-/
import Derived.Test.YtphajlldghcnnaaPq
import Derived.Test.YtphajlldghcnnaaPk
import Derived.Test.YtphajlldghcnnaaPm
namespace Go.Proofs.Ytphajlldghcnnaa
open Go.RowKit Go.Shelf
def onRV (b : Bk) (x : PB) : Int × Int := (onP b x).getD (0, 0)
def onRE (b : Bk) (x : PB) : Value := .tuple #[.agg #[.int .i64 (onRV b x).1, .int .i64 (onRV b x).2], .bool (onP b x).isSome]
theorem onRE_some {b : Bk} {x : PB} {p q : Int} (h : onP b x = some (p, q)) : onRE b x = .tuple #[.agg #[.int .i64 p, .int .i64 q], .bool true] := by
 unfold onRE onRV
 rw [h]; rfl
theorem onRE_none {b : Bk} {x : PB} (h : onP b x = none) : onRE b x = .tuple #[.agg #[.int .i64 0, .int .i64 0], .bool false] := by
 unfold onRE onRV
 rw [h]; rfl
theorem two_set {W : World} {g : Nat} {a b : Value} {T : TypeId} (h : W.heap[g]? = some (.cells #[a, b] T (0, 0))) (x y : Value) : ((W.setCell ⟨g, 0, none⟩ x).setCell ⟨g, 1, none⟩ y).heap[g]? = some (.cells #[x, y] T (0, 0)) :=
 heap_setCell_row (heap_setCell_row h 0 x) 1 y
structure TwoAt (W : World) (g : Nat) : Prop where
 row : W.heap[g]? = some (.cells #[.int .i64 0, .int .i64 0] 71 (0, 0))
theorem TwoAt.lt {W : World} {g : Nat} (h : TwoAt W g) : g < W.heap.size := (Array.getElem?_eq_some_iff.1 h.row).1
set_option maxRecDepth 100000 in
set_option maxHeartbeats 4000000 in
theorem onRef_any (x : PB) (b : Bk) (ba sa : Option Addr) (bcap scap : Nat) (w : World) (hv : IsBook w b ba bcap sa scap) (v : BVal b) :
  Calls Try.prog 75 #[.agg #[.int .i64 b.kd, .int .i64 b.n, .slice ba b.bets.length bcap, .slice sa b.scr.length scap, .bool b.fav, .int .i64 b.car, .int .i64 b.duty, .int .i64 b.step], .agg #[.int .i64 x.f, .int .i64 x.s, .int .i64 x.u]] w fun e w' => e = .returned (onRE b x) ∧ Ext w w' := by
 have HV := Lib.hid hv
 have V := Lib.hid v
 clear hv v
 go_enter Try.func75, Try.ntmps75
 go_upto_region 1 with (fail)
 obtain ⟨W0, hW0⟩ : ∃ W0, W0 = ((w.alloc (.cells #[.int .i64 b.kd, .int .i64 b.n, .slice ba b.bets.length bcap, .slice sa b.scr.length scap, .bool b.fav, .int .i64 b.car, .int .i64 b.duty, .int .i64 b.step] 25)).alloc (.cells #[.int .i64 x.f, .int .i64 x.s, .int .i64 x.u] 62)).alloc (.cells #[.int .i64 0, .int .i64 0] 71) := ⟨_, rfl⟩
 have hE : Ext w W0 := by rw [hW0]; exact xx
 have k0 : W0.cell? ⟨w.heap.size, 0, none⟩ = some (.int .i64 b.kd) := by rw [hW0]; simp [go_sem]
 have k1 : W0.cell? ⟨w.heap.size, 1, none⟩ = some (.int .i64 b.n) := by rw [hW0]; simp [go_sem]
 have k2 : W0.cell? ⟨w.heap.size, 2, none⟩ = some (.slice ba b.bets.length bcap) := by rw [hW0]; simp [go_sem]
 have k3 : W0.cell? ⟨w.heap.size, 3, none⟩ = some (.slice sa b.scr.length scap) := by rw [hW0]; simp [go_sem]
 have k4 : W0.cell? ⟨w.heap.size, 4, none⟩ = some (.bool b.fav) := by rw [hW0]; simp [go_sem]
 have k5 : W0.cell? ⟨w.heap.size, 5, none⟩ = some (.int .i64 b.car) := by rw [hW0]; simp [go_sem]
 have k6 : W0.cell? ⟨w.heap.size, 6, none⟩ = some (.int .i64 b.duty) := by rw [hW0]; simp [go_sem]
 have k7 : W0.cell? ⟨w.heap.size, 7, none⟩ = some (.int .i64 b.step) := by rw [hW0]; simp [go_sem]
 have d0 : W0.cell? ⟨w.heap.size + 1, 0, none⟩ = some (.int .i64 x.f) := by rw [hW0]; simp [go_sem]
 have d1 : W0.cell? ⟨w.heap.size + 1, 1, none⟩ = some (.int .i64 x.s) := by rw [hW0]; simp [go_sem]
 have HRT : TwoAt W0 (w.heap.size + 1 + 1) := ⟨by
  rw [hW0]
  have := World.alloc_heap_new ((w.alloc (.cells #[.int .i64 b.kd, .int .i64 b.n, .slice ba b.bets.length bcap, .slice sa b.scr.length scap, .bool b.fav, .int .i64 b.car, .int .i64 b.duty, .int .i64 b.step] 25)).alloc (.cells #[.int .i64 x.f, .int .i64 x.s, .int .i64 x.u] 62)) (.cells #[.int .i64 0, .int .i64 0] 71)
  simpa using this⟩
 have hz := World.block_lt_of_cell? _ _ k0
 have hzd := World.block_lt_of_cell? _ _ d0
 simp only at hz hzd
 rw [← hW0]
 have HS := Lib.hid (HV.out.ext hE)
 have HW := Lib.hid hE
 obtain ⟨cf0, hcf⟩ : ∃ c, c = b.scr.contains x.f := ⟨_, rfl⟩
 obtain ⟨cs0, hcs⟩ : ∃ c, c = b.scr.contains x.s := ⟨_, rfl⟩
 have t1 := fun W h => has_any b.scr x.f (.slice sa b.scr.length scap) W h
 have t2 := fun W h => has_any b.scr x.s (.slice sa b.scr.length scap) W h
 rw [← hcf] at t1
 rw [← hcs] at t2
 have T1 := Lib.hid t1
 have T2 := Lib.hid t2
 have HCF : Hid (cf0 = outB b x.f) := Lib.hid hcf
 have HCS : Hid (cs0 = outB b x.s) := Lib.hid hcs
 clear hW0 hE hcf hcs t1 t2




 go_wp2_with fail
 refine callW (W0 := W0) (g := ⟨W0, Below.refl _ _⟩) xx (T1.out _ (HS.out.ext xx).scr) fun g1 hgr => ?_
 clear hgr
 cases cf0
 ·skip

  go_wp2_with fail
  refine callW (W0 := W0) (g := g1) xx (T2.out _ (HS.out.ext xx).scr) fun g2 hgr => ?_
  clear hgr
  cases cs0
  ·have HO : Hid (onRE b x = .tuple #[.agg #[.int .i64 x.f, .int .i64 x.s], .bool true]) := Lib.hid (onRE_some (by unfold onP; rw [if_pos ⟨HCF.out.symm, HCS.out.symm⟩]))
   have hgb := grow_below W0 g2
   have hr := ((hgb).block _ HRT.lt).trans HRT.row
   have c0 : (grow W0 g2).cell? ⟨w.heap.size + 1 + 1, 0, none⟩ = some (.int .i64 0) := by rw [cell_of_row _ _ _ _ _ _ hr]; rfl
   have c1 : (grow W0 g2).cell? ⟨w.heap.size + 1 + 1, 1, none⟩ = some (.int .i64 0) := by rw [cell_of_row _ _ _ _ _ _ hr]; rfl
   have cf : ∀ o, (grow W0 g2).frozen? ⟨w.heap.size + 1 + 1, o, none⟩ = false := fun o => by simp [World.frozen?, hr]
   have cz := (Array.getElem?_eq_some_iff.1 hr).1
   clear hr
   go_wp2_with fail
   refine bodyPost_ret (v := .tuple #[.agg #[.int .i64 x.f, .int .i64 x.s], .bool true]) (by simp [results, Try.results75, go_sem, c0, c1]) rfl ?_
   exact ⟨by rw [HO.out], ((HW.out.trans' (hgb)).setCell (p := ⟨w.heap.size + 1 + 1, 0, none⟩) (by show w.heap.size ≤ w.heap.size + 1 + 1; omega) _).setCell (p := ⟨w.heap.size + 1 + 1, 1, none⟩) (by show w.heap.size ≤ w.heap.size + 1 + 1; omega) _⟩
  ·have HN : Hid (¬ (outB b x.f = false ∧ outB b x.s = false)) := Lib.hid (fun h => by rw [← HCS.out] at h; cases h.2)
   clear HCF HCS
   obtain ⟨sg, hsg⟩ : ∃ sg, sg = single b := ⟨_, rfl⟩
   have t3 := fun W => alone_any b.kd W
   rw [show (decide (b.kd = 0) || decide (b.kd = 1)) = sg by rw [hsg]; rfl] at t3
   have T3 := Lib.hid t3
   have HSG := Lib.hid hsg
   clear hsg t3
   go_wp2_with fail
   refine callW (W0 := W0) (g := g2) xx (T3.out _) fun g3 hgr => ?_
   clear hgr
   cases sg
   ·have HO : Hid (onRE b x = .tuple #[.agg #[.int .i64 0, .int .i64 0], .bool false]) := Lib.hid (onRE_none (by unfold onP; rw [if_neg HN.out, if_neg (fun h => by rw [← HSG.out] at h; cases h.1)]))
    have hgb := grow_below W0 g3
    have hr := ((hgb).block _ HRT.lt).trans HRT.row
    have c0 : (grow W0 g3).cell? ⟨w.heap.size + 1 + 1, 0, none⟩ = some (.int .i64 0) := by rw [cell_of_row _ _ _ _ _ _ hr]; rfl
    have c1 : (grow W0 g3).cell? ⟨w.heap.size + 1 + 1, 1, none⟩ = some (.int .i64 0) := by rw [cell_of_row _ _ _ _ _ _ hr]; rfl
    have cf : ∀ o, (grow W0 g3).frozen? ⟨w.heap.size + 1 + 1, o, none⟩ = false := fun o => by simp [World.frozen?, hr]
    have cz := (Array.getElem?_eq_some_iff.1 hr).1
    clear hr
    go_wp2_with fail
    refine bodyPost_ret (v := .tuple #[.agg #[.int .i64 0, .int .i64 0], .bool false]) (by simp [results, Try.results75, go_sem, c0, c1]) rfl ?_
    exact ⟨by rw [HO.out], ((HW.out.trans' (hgb)).setCell (p := ⟨w.heap.size + 1 + 1, 0, none⟩) (by show w.heap.size ≤ w.heap.size + 1 + 1; omega) _).setCell (p := ⟨w.heap.size + 1 + 1, 1, none⟩) (by show w.heap.size ≤ w.heap.size + 1 + 1; omega) _⟩
   ·obtain ⟨fv, hfv⟩ : ∃ fv, fv = b.fav := ⟨_, rfl⟩
    have HFV := Lib.hid hfv
    have t5 := fun W h => favOf_any b ba sa bcap scap W h V.out
    rw [← hfv] at k4 t5
    have T5 := Lib.hid t5
    clear hfv t5
    cases fv
    ·have HO : Hid (onRE b x = .tuple #[.agg #[.int .i64 0, .int .i64 0], .bool false]) := Lib.hid (onRE_none (by unfold onP; rw [if_neg HN.out, if_neg (fun h => by rw [← HFV.out] at h; cases h.2)]))
     have hgb := grow_below W0 g3
     have hr := ((hgb).block _ HRT.lt).trans HRT.row
     have c0 : (grow W0 g3).cell? ⟨w.heap.size + 1 + 1, 0, none⟩ = some (.int .i64 0) := by rw [cell_of_row _ _ _ _ _ _ hr]; rfl
     have c1 : (grow W0 g3).cell? ⟨w.heap.size + 1 + 1, 1, none⟩ = some (.int .i64 0) := by rw [cell_of_row _ _ _ _ _ _ hr]; rfl
     have cf : ∀ o, (grow W0 g3).frozen? ⟨w.heap.size + 1 + 1, o, none⟩ = false := fun o => by simp [World.frozen?, hr]
     have cz := (Array.getElem?_eq_some_iff.1 hr).1
     clear hr
     go_wp2_with fail
     refine bodyPost_ret (v := .tuple #[.agg #[.int .i64 0, .int .i64 0], .bool false]) (by simp [results, Try.results75, go_sem, c0, c1]) rfl ?_
     exact ⟨by rw [HO.out], ((HW.out.trans' (hgb)).setCell (p := ⟨w.heap.size + 1 + 1, 0, none⟩) (by show w.heap.size ≤ w.heap.size + 1 + 1; omega) _).setCell (p := ⟨w.heap.size + 1 + 1, 1, none⟩) (by show w.heap.size ≤ w.heap.size + 1 + 1; omega) _⟩
    ·have HO : Hid (onRE b x = .tuple #[.agg #[.int .i64 (favP b), .int .i64 (-1)], .bool true]) := Lib.hid (onRE_some (by unfold onP; rw [if_neg HN.out, if_pos ⟨HSG.out.symm, HFV.out.symm⟩]))
     go_wp2_with fail
     refine callW (W0 := W0) (g := g3) xx (T5.out _ (HS.out.ext xx)) fun g4 hgr => ?_
     clear hgr
     have hgb := grow_below W0 g4
     have hr := ((hgb).block _ HRT.lt).trans HRT.row
     have c0 : (grow W0 g4).cell? ⟨w.heap.size + 1 + 1, 0, none⟩ = some (.int .i64 0) := by rw [cell_of_row _ _ _ _ _ _ hr]; rfl
     have c1 : (grow W0 g4).cell? ⟨w.heap.size + 1 + 1, 1, none⟩ = some (.int .i64 0) := by rw [cell_of_row _ _ _ _ _ _ hr]; rfl
     have cf : ∀ o, (grow W0 g4).frozen? ⟨w.heap.size + 1 + 1, o, none⟩ = false := fun o => by simp [World.frozen?, hr]
     have cz := (Array.getElem?_eq_some_iff.1 hr).1
     clear hr
     go_wp2_with fail
     refine bodyPost_ret (v := .tuple #[.agg #[.int .i64 (favP b), .int .i64 (-1)], .bool true]) (by simp [results, Try.results75, go_sem, c0, c1]) rfl ?_
     exact ⟨by rw [HO.out], ((HW.out.trans' (hgb)).setCell (p := ⟨w.heap.size + 1 + 1, 0, none⟩) (by show w.heap.size ≤ w.heap.size + 1 + 1; omega) _).setCell (p := ⟨w.heap.size + 1 + 1, 1, none⟩) (by show w.heap.size ≤ w.heap.size + 1 + 1; omega) _⟩
 ·skip

  have HN : Hid (¬ (outB b x.f = false ∧ outB b x.s = false)) := Lib.hid (fun h => by rw [← HCF.out] at h; cases h.1)
  clear HCF HCS
  obtain ⟨sg, hsg⟩ : ∃ sg, sg = single b := ⟨_, rfl⟩
  have t3 := fun W => alone_any b.kd W
  rw [show (decide (b.kd = 0) || decide (b.kd = 1)) = sg by rw [hsg]; rfl] at t3
  have T3 := Lib.hid t3
  have HSG := Lib.hid hsg
  clear hsg t3
  go_wp2_with fail
  refine callW (W0 := W0) (g := g1) xx (T3.out _) fun g5 hgr => ?_
  clear hgr
  cases sg
  ·have HO : Hid (onRE b x = .tuple #[.agg #[.int .i64 0, .int .i64 0], .bool false]) := Lib.hid (onRE_none (by unfold onP; rw [if_neg HN.out, if_neg (fun h => by rw [← HSG.out] at h; cases h.1)]))
   have hgb := grow_below W0 g5
   have hr := ((hgb).block _ HRT.lt).trans HRT.row
   have c0 : (grow W0 g5).cell? ⟨w.heap.size + 1 + 1, 0, none⟩ = some (.int .i64 0) := by rw [cell_of_row _ _ _ _ _ _ hr]; rfl
   have c1 : (grow W0 g5).cell? ⟨w.heap.size + 1 + 1, 1, none⟩ = some (.int .i64 0) := by rw [cell_of_row _ _ _ _ _ _ hr]; rfl
   have cf : ∀ o, (grow W0 g5).frozen? ⟨w.heap.size + 1 + 1, o, none⟩ = false := fun o => by simp [World.frozen?, hr]
   have cz := (Array.getElem?_eq_some_iff.1 hr).1
   clear hr
   go_wp2_with fail
   refine bodyPost_ret (v := .tuple #[.agg #[.int .i64 0, .int .i64 0], .bool false]) (by simp [results, Try.results75, go_sem, c0, c1]) rfl ?_
   exact ⟨by rw [HO.out], ((HW.out.trans' (hgb)).setCell (p := ⟨w.heap.size + 1 + 1, 0, none⟩) (by show w.heap.size ≤ w.heap.size + 1 + 1; omega) _).setCell (p := ⟨w.heap.size + 1 + 1, 1, none⟩) (by show w.heap.size ≤ w.heap.size + 1 + 1; omega) _⟩
  ·obtain ⟨fv, hfv⟩ : ∃ fv, fv = b.fav := ⟨_, rfl⟩
   have HFV := Lib.hid hfv
   have t5 := fun W h => favOf_any b ba sa bcap scap W h V.out
   rw [← hfv] at k4 t5
   have T5 := Lib.hid t5
   clear hfv t5
   cases fv
   ·have HO : Hid (onRE b x = .tuple #[.agg #[.int .i64 0, .int .i64 0], .bool false]) := Lib.hid (onRE_none (by unfold onP; rw [if_neg HN.out, if_neg (fun h => by rw [← HFV.out] at h; cases h.2)]))
    have hgb := grow_below W0 g5
    have hr := ((hgb).block _ HRT.lt).trans HRT.row
    have c0 : (grow W0 g5).cell? ⟨w.heap.size + 1 + 1, 0, none⟩ = some (.int .i64 0) := by rw [cell_of_row _ _ _ _ _ _ hr]; rfl
    have c1 : (grow W0 g5).cell? ⟨w.heap.size + 1 + 1, 1, none⟩ = some (.int .i64 0) := by rw [cell_of_row _ _ _ _ _ _ hr]; rfl
    have cf : ∀ o, (grow W0 g5).frozen? ⟨w.heap.size + 1 + 1, o, none⟩ = false := fun o => by simp [World.frozen?, hr]
    have cz := (Array.getElem?_eq_some_iff.1 hr).1
    clear hr
    go_wp2_with fail
    refine bodyPost_ret (v := .tuple #[.agg #[.int .i64 0, .int .i64 0], .bool false]) (by simp [results, Try.results75, go_sem, c0, c1]) rfl ?_
    exact ⟨by rw [HO.out], ((HW.out.trans' (hgb)).setCell (p := ⟨w.heap.size + 1 + 1, 0, none⟩) (by show w.heap.size ≤ w.heap.size + 1 + 1; omega) _).setCell (p := ⟨w.heap.size + 1 + 1, 1, none⟩) (by show w.heap.size ≤ w.heap.size + 1 + 1; omega) _⟩
   ·have HO : Hid (onRE b x = .tuple #[.agg #[.int .i64 (favP b), .int .i64 (-1)], .bool true]) := Lib.hid (onRE_some (by unfold onP; rw [if_neg HN.out, if_pos ⟨HSG.out.symm, HFV.out.symm⟩]))
    go_wp2_with fail
    refine callW (W0 := W0) (g := g5) xx (T5.out _ (HS.out.ext xx)) fun g6 hgr => ?_
    clear hgr
    have hgb := grow_below W0 g6
    have hr := ((hgb).block _ HRT.lt).trans HRT.row
    have c0 : (grow W0 g6).cell? ⟨w.heap.size + 1 + 1, 0, none⟩ = some (.int .i64 0) := by rw [cell_of_row _ _ _ _ _ _ hr]; rfl
    have c1 : (grow W0 g6).cell? ⟨w.heap.size + 1 + 1, 1, none⟩ = some (.int .i64 0) := by rw [cell_of_row _ _ _ _ _ _ hr]; rfl
    have cf : ∀ o, (grow W0 g6).frozen? ⟨w.heap.size + 1 + 1, o, none⟩ = false := fun o => by simp [World.frozen?, hr]
    have cz := (Array.getElem?_eq_some_iff.1 hr).1
    clear hr
    go_wp2_with fail
    refine bodyPost_ret (v := .tuple #[.agg #[.int .i64 (favP b), .int .i64 (-1)], .bool true]) (by simp [results, Try.results75, go_sem, c0, c1]) rfl ?_
    exact ⟨by rw [HO.out], ((HW.out.trans' (hgb)).setCell (p := ⟨w.heap.size + 1 + 1, 0, none⟩) (by show w.heap.size ≤ w.heap.size + 1 + 1; omega) _).setCell (p := ⟨w.heap.size + 1 + 1, 1, none⟩) (by show w.heap.size ≤ w.heap.size + 1 + 1; omega) _⟩
end Go.Proofs.Ytphajlldghcnnaa
namespace Go.Proofs.Ytphajlldghcnnaa
open Go.RowKit Go.Shelf
theorem fin_not {b : Bk} {fs : List (List Int)} (h0 : bkErr b = 0) (h : ¬ FinV b fs) : finErr b fs = 22 := by
 have h1 : finErr b fs ≠ 0 := fun e => h (finV_of e)
 unfold finErr at h1 ⊢
 rw [if_neg (fun e => e h0)] at h1 ⊢
 split
 ·rename_i hc; rw [if_pos hc] at h1; exact absurd rfl h1
 ·rfl
/-- the groups so far -/
structure PreF (b : Bk) (pre : List (List Int)) : Prop where
 ne : ∀ g ∈ pre, g ≠ [] ∧ rising g = true
 nd : pre.flatten.Nodup
 sub : ∀ x ∈ pre.flatten, x ∈ runL b
theorem PreF.nil (b : Bk) : PreF b [] := ⟨by simp, by simp, by simp⟩
theorem sub_len {m l : List Int} (hm : m.Nodup) (hs : ∀ x ∈ m, x ∈ l) (hl : l.Nodup) : m.length ≤ l.length := by
 have := count_out hm hs hl
 omega
/-- a group so far -/
structure PreG (b : Bk) (pre : List (List Int)) (g : List Int) (k : Nat) : Prop where
 up : (g.take k).Pairwise (· < ·)
 run : ∀ x ∈ g.take k, x ∈ runL b ∧ x ∉ pre.flatten
theorem PreG.zero (b : Bk) (pre : List (List Int)) (g : List Int) : PreG b pre g 0 := ⟨by simp, by simp⟩
theorem pw_nodup {l : List Int} (h : l.Pairwise (· < ·)) : l.Nodup := by
 rw [List.nodup_iff_pairwise_ne]
 exact h.imp fun h e => by omega
theorem PreG.step {b : Bk} {pre : List (List Int)} {g : List Int} {k : Nat} (h : PreG b pre g k) (hk : k < g.length) (hr : gt g k ∈ runL b) (hp : gt g k ∉ pre.flatten) (hu : k = 0 ∨ gt g (k - 1) < gt g k) : PreG b pre g (k + 1) := by
 have e : g.take (k + 1) = g.take k ++ [gt g k] := by rw [List.take_succ_eq_append_getElem hk, gt_get hk]
 refine ⟨?_, fun x hx => ?_⟩
 ·rw [e, List.pairwise_append]
  refine ⟨h.up, by simp, fun a ha c hc => ?_⟩
  simp only [List.mem_singleton] at hc
  subst hc
  obtain ⟨i, hi, rfl⟩ := List.getElem_of_mem ha
  have hik : i < k := by have := hi; rw [List.length_take] at this; omega
  rw [List.getElem_take, gt_get (by omega)]
  rcases hu with hu | hu
  ·omega
  ·by_cases e2 : i = k - 1
   ·rw [e2]; exact hu
   ·have := (List.pairwise_iff_getElem.1 h.up) i (k - 1) hi (by rw [List.length_take]; omega) (by omega)
    rw [List.getElem_take, List.getElem_take, gt_get (by omega), gt_get (by omega)] at this
    omega
 ·rw [e] at hx
  rcases List.mem_append.1 hx with hx | hx
  ·exact h.run x hx
  ·simp only [List.mem_singleton] at hx
   rw [hx]; exact ⟨hr, hp⟩
theorem PreG.len {b : Bk} (v : BVal b) {pre : List (List Int)} (hp : PreF b pre) {g : List Int} {k : Nat} (h : PreG b pre g k) (hk : k ≤ g.length) : pre.flatten.length + k ≤ 8 := by
 have h1 : (pre.flatten ++ g.take k).Nodup := by
  rw [List.nodup_append]
  exact ⟨hp.nd, pw_nodup h.up, fun x hx y hy e => (h.run y hy).2 (by rw [← e]; exact hx)⟩
 have h2 := sub_len h1 (fun x hx => (List.mem_append.1 hx).elim (hp.sub x) fun h' => (h.run x h').1) (runL_nodup b)
 have h3 := runL_le v
 rw [List.length_append, List.length_take] at h2
 omega
theorem PreF.more {b : Bk} {pre : List (List Int)} (hp : PreF b pre) {g : List Int} (h : PreG b pre g g.length) (hne : g ≠ []) : PreF b (pre ++ [g]) := by
 have hu := h.up
 have hr := h.run
 rw [List.take_length] at hu hr
 refine ⟨fun x hx => ?_, ?_, fun x hx => ?_⟩
 ·rcases List.mem_append.1 hx with hx | hx
  ·exact hp.ne x hx
  ·simp only [List.mem_singleton] at hx
   rw [hx]; exact ⟨hne, rising_iff.2 hu⟩
 ·rw [List.flatten_append, List.nodup_append]
  refine ⟨hp.nd, by simpa using pw_nodup hu, fun x hx y hy e => ?_⟩
  have hy' : y ∈ g := by simpa using hy
  exact (hr y hy').2 (by rw [← e]; exact hx)
 ·rw [List.flatten_append] at hx
  rcases List.mem_append.1 hx with hx | hx
  ·exact hp.sub x hx
  ·exact (hr x (by simpa using hx)).1
theorem fin_all {b : Bk} {fs : List (List Int)} (h0 : bkErr b = 0) (hp : PreF b fs) (hc : (fs.flatten.length : Int) = b.n - b.scr.length) : finErr b fs = 0 := by
 have v := bval_of h0
 have hl := runL_len v
 have h1 := count_out hp.nd hp.sub (runL_nodup b)
 have h2 : ((runL b).filter fun x => !fs.flatten.contains x) = [] := List.eq_nil_of_length_eq_zero (by omega)
 have h3 : ∀ x ∈ runL b, x ∈ fs.flatten := fun x hx => by
  rcases Decidable.em (x ∈ fs.flatten) with h | h
  ·exact h
  ·have : x ∈ (runL b).filter fun x => !fs.flatten.contains x := List.mem_filter.2 ⟨hx, by simpa using h⟩
   rw [h2] at this
   cases this
 exact finErr_of h0 ⟨v, (List.perm_ext_iff_of_nodup (runL_nodup b) hp.nd).2 fun x => ⟨h3 x, hp.sub x⟩, fun g hg => (hp.ne g hg).1, fun g hg => (hp.ne g hg).2⟩
theorem no_count {b : Bk} {fs : List (List Int)} (h0 : bkErr b = 0) (hc : ¬ ((fs.flatten.length : Int) = b.n - b.scr.length)) : finErr b fs = 22 := fin_not h0 fun h => hc (by rw [h.len]; exact runL_len h.book)
theorem no_empty {b : Bk} {fs : List (List Int)} (h0 : bkErr b = 0) {g : List Int} (hg : g ∈ fs) (he : g = []) : finErr b fs = 22 := fin_not h0 fun h => h.ne g hg he
theorem no_run {b : Bk} {fs : List (List Int)} (h0 : bkErr b = 0) {g : List Int} (hg : g ∈ fs) {x : Int} (hx : x ∈ g) (hr : x ∉ runL b) : finErr b fs = 22 :=
 fin_not h0 fun h => hr (h.perm.symm.subset (List.mem_flatten.2 ⟨g, hg, hx⟩))
theorem no_rise {b : Bk} {fs : List (List Int)} (h0 : bkErr b = 0) {g : List Int} (hg : g ∈ fs) {k : Nat} (hk : k + 1 < g.length) (hr : gt g (k + 1) ≤ gt g k) : finErr b fs = 22 :=
 fin_not h0 fun h => by have := rising_lt (h.up g hg) (show k < k + 1 by omega) hk; omega
theorem no_twice {b : Bk} {fs : List (List Int)} (h0 : bkErr b = 0) {i j : Nat} (hi : i < fs.length) (hj : j < i) {x : Int} (h1 : x ∈ fs[j]) (h2 : x ∈ fs[i]) : finErr b fs = 22 :=
 fin_not h0 fun h => by
  have hn : fs.flatten.Nodup := h.perm.nodup_iff.1 (runL_nodup b)
  have e : fs.flatten = (fs.take i).flatten ++ (fs.drop i).flatten := by rw [← List.flatten_append, List.take_append_drop]
  rw [e, List.nodup_append] at hn
  exact hn.2.2 x (List.mem_flatten.2 ⟨fs[j], List.mem_take_iff_getElem.2 ⟨j, by omega, rfl⟩, h1⟩) x (List.mem_flatten.2 ⟨fs[i], List.mem_drop_iff_getElem.2 ⟨0, by omega, by simp⟩, h2⟩) rfl
theorem fin_cell {w : World} {fa : Option Addr} {fcap : Nat} {ps : List (Value × List Int)} (h : IsFin w (.slice fa ps.length fcap) ps) {i : Nat} (hi : i < ps.length) : ∃ fb fo ga gc, fa = some ⟨fb, fo, none⟩ ∧ ps[i].2.length ≤ 9223372036854775807 ∧ ∀ W, Ext w W →
  W.cell? ⟨fb, fo + i, none⟩ = some (.slice ga ps[i].2.length gc) ∧ fb < W.heap.size ∧ IsInts W .i64 (.slice ga ps[i].2.length gc) ps[i].2 := by
 obtain ⟨_, _, e0, -, -, hc⟩ := h.spec
 cases e0
 rcases hc with h0 | ⟨fb, fo, rfl, hc⟩
 ·rw [h0] at hi; simp at hi
 ·have hI := h.ints _ (List.getElem_mem hi)
  obtain ⟨ga, gc, hg, hl1, hl2, -⟩ := hI.spec
  rw [hg] at hI
  refine ⟨fb, fo, ga, gc, rfl, by omega, fun W e => ?_⟩
  have c0 := cell_ext e (hc i hi)
  rw [hg] at c0
  exact ⟨c0, World.block_lt_of_cell? _ _ c0, hI.ext e⟩
theorem ints_cell {w : World} {sa : Option Addr} {n cap : Nat} {l : List Int} (h : IsInts w .i64 (.slice sa n cap) l) {i : Nat} (hi : i < l.length) : ∃ sb off, sa = some ⟨sb, off, none⟩ ∧ ∀ W, Ext w W → W.cell? ⟨sb, off + i, none⟩ = some (.int .i64 (gt l i)) ∧ sb < W.heap.size := by
 obtain ⟨_, _, e0, -, -, hc⟩ := h.spec
 cases e0
 rcases hc with h0 | ⟨sb, off, rfl, hc⟩
 ·rw [h0] at hi; simp at hi
 ·refine ⟨sb, off, rfl, fun W e => ?_⟩
  have c0 := cell_ext e (hc i hi)
  rw [gt_get] at c0
  exact ⟨c0, World.block_lt_of_cell? _ _ c0⟩
theorem take_flat {fs : List (List Int)} {i : Nat} (hi : i < fs.length) : fs.take (i + 1) = fs.take i ++ [fs[i]] := List.take_succ_eq_append_getElem hi
set_option maxRecDepth 100000 in
set_option maxHeartbeats 8000000 in
theorem refFin_any (ps : List (Value × List Int)) (fv : Value) (b : Bk) (ba sa : Option Addr) (bcap scap : Nat) (w : World) (hv : IsBook w b ba bcap sa scap) (hf : IsFin w fv ps) :
  Calls Try.prog 30 #[.agg #[.int .i64 b.kd, .int .i64 b.n, .slice ba b.bets.length bcap, .slice sa b.scr.length scap, .bool b.fav, .int .i64 b.car, .int .i64 b.duty, .int .i64 b.step], fv] w fun e w' => e = .returned (.int .i64 (finErr b (finsOf ps))) ∧ Ext w w' := by
 obtain ⟨fa, fcap, rfl, hf1, hf2, -⟩ := hf.spec
 have HF := Lib.hid hf
 clear hf
 have HV := Lib.hid hv
 clear hv
 go_enter Try.func30, Try.ntmps30
 go_upto_region 1 with (fail)
 obtain ⟨W0, hW0⟩ : ∃ W0, W0 = w.alloc (.cells #[.int .i64 b.kd, .int .i64 b.n, .slice ba b.bets.length bcap, .slice sa b.scr.length scap, .bool b.fav, .int .i64 b.car, .int .i64 b.duty, .int .i64 b.step] 25) := ⟨_, rfl⟩
 have hE : Ext w W0 := by rw [hW0]; exact xx
 have k0 : W0.cell? ⟨w.heap.size, 0, none⟩ = some (.int .i64 b.kd) := by rw [hW0]; simp [go_sem]
 have k1 : W0.cell? ⟨w.heap.size, 1, none⟩ = some (.int .i64 b.n) := by rw [hW0]; simp [go_sem]
 have k2 : W0.cell? ⟨w.heap.size, 2, none⟩ = some (.slice ba b.bets.length bcap) := by rw [hW0]; simp [go_sem]
 have k3 : W0.cell? ⟨w.heap.size, 3, none⟩ = some (.slice sa b.scr.length scap) := by rw [hW0]; simp [go_sem]
 have k4 : W0.cell? ⟨w.heap.size, 4, none⟩ = some (.bool b.fav) := by rw [hW0]; simp [go_sem]
 have k5 : W0.cell? ⟨w.heap.size, 5, none⟩ = some (.int .i64 b.car) := by rw [hW0]; simp [go_sem]
 have k6 : W0.cell? ⟨w.heap.size, 6, none⟩ = some (.int .i64 b.duty) := by rw [hW0]; simp [go_sem]
 have k7 : W0.cell? ⟨w.heap.size, 7, none⟩ = some (.int .i64 b.step) := by rw [hW0]; simp [go_sem]
 have hz : w.heap.size < W0.heap.size := World.block_lt_of_cell? _ _ k0
 have HS := Lib.hid (HV.out.ext hE)
 have HW := Lib.hid hE
 rw [← hW0]
 clear hW0 HV
 have HFW := Lib.hid (HF.out.ext hE)
 clear hE HF




 go_wp2_with fail
 refine callW (W0 := W0) (g := ⟨W0, Below.refl _ _⟩) xx (refCheck_any b ba sa bcap scap _ (HS.out.ext xx)) fun g1 hgr => ?_
 clear hgr
 obtain ⟨er, her⟩ : ∃ er, er = bkErr b := ⟨_, rfl⟩
 rw [← her]

 by_cases h0 : er = 0
 rotate_left
 ·have f1 : (er != 0) = true := by simpa using h0
  have HER := Lib.hid her
  have hfe : Hid (finErr b (finsOf ps) = er) := Lib.hid (by unfold finErr; rw [← her, if_pos h0])
  clear her h0
  go_wp2_with fail
  refine callW (W0 := W0) (g := g1) xx (refCheck_any b ba sa bcap scap _ (HS.out.ext xx)) fun g2 hgr => ?_
  clear hgr
  rw [← HER.out]
  go_wp2_with fail
  go_ret
  exact ⟨ret_int hfe.out.symm, HW.out.trans' (grow_below W0 _)⟩

 subst h0
 have H0 := Lib.hid her.symm
 have V := Lib.hid (bval_of her.symm)
 have hvn := V.out.n
 have hvl := V.out.left
 clear her
 obtain ⟨U, hU⟩ : ∃ zz9, zz9 = (grow W0 g1) := ⟨_, rfl⟩
 have eU : Ext W0 U := by rw [hU]; exact xx
 replace k0 := cell_ext eU k0
 replace k1 := cell_ext eU k1
 replace k2 := cell_ext eU k2
 replace k3 := cell_ext eU k3
 replace k4 := cell_ext eU k4
 replace k5 := cell_ext eU k5
 replace k6 := cell_ext eU k6
 replace k7 := cell_ext eU k7
 replace HS := Lib.hid (HS.out.ext eU)
 replace HFW := Lib.hid (HFW.out.ext eU)
 replace HW := Lib.hid (HW.out.trans' eU)
 rw [← hU]
 replace hz := World.block_lt_of_cell? _ _ k0
 clear hU eU
 obtain ⟨fs, hfs⟩ : ∃ fs, fs = finsOf ps := ⟨_, rfl⟩
 have hfl : fs.length = ps.length := by rw [hfs]; simp [finsOf]
 have hfi : ∀ i, (h : i < ps.length) → ∃ h2 : i < fs.length, fs[i]'h2 = ps[i].2 := fun i h => ⟨by omega, by subst hfs; simp [finsOf]⟩
 have HFS := Lib.hid hfs
 have HFI := Lib.hid hfi
 have HFL := Lib.hid hfl
 clear hfs hfi hfl
 go_wp2_with fail
 go_loopw [5, 6] (fun av iv W => ∃ (i : Nat) (all : Int), i ≤ ps.length ∧ iv = .int .i64 i ∧ av = .int .i64 all ∧ all = ((fs.take i).flatten.length : Int) ∧ PreF b (fs.take i) ∧ Ext U W) (fun _ iv _ => ps.length - (intOf iv).toNat)
 case atStart => exact ⟨0, 0, by omega, rfl, rfl, by simp, by simpa using PreF.nil b, Below.refl _ _⟩
 case round =>
  obtain ⟨i, all, hi, rfl, rfl, hall, hpre, hE⟩ := hrel
  have HPRE := Lib.hid hpre
  have HALL := Lib.hid hall
  have HE := Lib.hid hE
  replace k1 := cell_ext hE k1
  replace k3 := cell_ext hE k3
  replace hz := World.block_lt_of_cell? _ _ k1
  simp only at hz
  by_cases hlt : i < ps.length
  ·have hii : (i : Int) < (ps.length : Int) := by omega
   obtain ⟨fb, fo, ga, gc, rfl, hgl9, hcell⟩ := fin_cell HFW.out hlt
   obtain ⟨c0, hzf, hI⟩ := hcell wr hE
   obtain ⟨g, hg⟩ : ∃ g, g = ps[i].2 := ⟨_, rfl⟩
   rw [← hg] at c0 hI hgl9
   obtain ⟨hgl, hgf⟩ := HFI.out i hlt
   rw [← hg] at hgf
   have HGF := Lib.hid hgf
   have hmem : g ∈ fs := by rw [← hgf]; exact List.getElem_mem _
   have HMEM := Lib.hid hmem
   have HI := Lib.hid hI
   clear hpre hall hcell hg hgf hmem hI hE k0 k2 k4 k5 k6 k7
   obtain ⟨Xw, rfl⟩ : ∃ Xw, Xw = wr := ⟨_, rfl⟩
   by_cases hg0 : g.length = 0
   ·have he : Hid (finErr b (finsOf ps) = 22) := Lib.hid (by rw [← HFS.out]; exact no_empty H0.out HMEM.out (List.eq_nil_of_length_eq_zero hg0))
    have hg1 : ((g.length : Int) == 0) = true := by rw [beq_iff_eq]; omega
    rw [hg0] at c0
    go_wp2_with fail
    go_ret
    exact ⟨ret_int (he.out).symm, HW.out.trans' HE.out⟩
   have hg1 : ((g.length : Int) == 0) = false := by rw [beq_eq_false_iff_ne]; omega
   have hgn : ¬ g = [] := fun h => hg0 (by rw [h]; rfl)
   have HGN := Lib.hid hgn
   clear hgn
   go_wp2_with fail
   go_loopw [5, 7] (fun av kv W => ∃ (k : Nat) (all : Int), k ≤ g.length ∧ kv = .int .i64 k ∧ av = .int .i64 all ∧ all = ((fs.take i).flatten.length : Int) + k ∧ PreG b (fs.take i) g k ∧ Ext Xw W) (fun _ kv _ => g.length - (intOf kv).toNat)
   case atStart => exact ⟨0, all, by omega, rfl, rfl, by rw [HALL.out]; simp, PreG.zero _ _ _, Below.refl _ _⟩
   case round =>
    obtain ⟨k, all2, hk, rfl, rfl, hall2, hpg, hE2⟩ := hrel
    have HPG := Lib.hid hpg
    have HA2 := Lib.hid hall2
    have HE2 := Lib.hid hE2
    replace k1 := cell_ext hE2 k1
    replace k3 := cell_ext hE2 k3
    replace c0 := cell_ext hE2 c0
    replace hz := World.block_lt_of_cell? _ _ k1
    replace hzf := World.block_lt_of_cell? _ _ c0
    simp only at hz hzf
    by_cases hlt2 : k < g.length
    ·have hki : (k : Int) < (g.length : Int) := by omega
     obtain ⟨sb, off, rfl, hci⟩ := ints_cell HI.out hlt2
     obtain ⟨d0, hzs⟩ := hci wr hE2
     have hrm : gt g k ∈ g := by rw [← gt_get hlt2]; exact List.getElem_mem hlt2
     obtain ⟨r, hr⟩ : ∃ r, r = gt g k := ⟨_, rfl⟩
     rw [← hr] at d0 hrm
     have HR := Lib.hid hr
     have HRM := Lib.hid hrm
     have HFU := Lib.hid (HE.out.trans' hE2)
     have HSW := Lib.hid ((HS.out.ext (HE.out.trans' hE2)).scr)
     clear hpg hall2 hci hr hrm hE2
     by_cases hr0 : r < 0
     ·have he : Hid (finErr b (finsOf ps) = 22) := Lib.hid (by rw [← HFS.out]; exact no_run H0.out HMEM.out HRM.out (fun h => by have := (runL_mem.1 h); omega))
      go_wp2_with fail
      go_ret
      exact ⟨ret_int (he.out).symm, HW.out.trans' HFU.out⟩
     by_cases hrn : b.n ≤ r
     ·have he : Hid (finErr b (finsOf ps) = 22) := Lib.hid (by rw [← HFS.out]; exact no_run H0.out HMEM.out HRM.out (fun h => by have := (runL_mem.1 h); omega))
      go_wp2_with fail
      go_ret
      exact ⟨ret_int (he.out).symm, HW.out.trans' HFU.out⟩
     obtain ⟨Y0, rfl⟩ : ∃ Y0, Y0 = wr := ⟨_, rfl⟩
     go_wp2_with fail
     refine (has_any b.scr r _ _ (HSW.out.ext (by exact xx))).mono ?_
     rintro e Y ⟨rfl, hEY⟩
     have HEY := Lib.hid (HFU.out.trans' hEY)
     replace k1 := cell_ext hEY k1
     replace k3 := cell_ext hEY k3
     replace c0 := cell_ext hEY c0
     replace d0 := cell_ext hEY d0
     replace hz := World.block_lt_of_cell? _ _ k1
     replace hzf := World.block_lt_of_cell? _ _ c0
     replace hzs := World.block_lt_of_cell? _ _ d0
     simp only at hz hzf hzs
     have HXY := Lib.hid (HE2.out.trans' hEY)
     clear hEY
     by_cases ho : r ∈ b.scr
     ·have he : Hid (finErr b (finsOf ps) = 22) := Lib.hid (by rw [← HFS.out]; exact no_run H0.out HMEM.out HRM.out (fun h => by have := (runL_mem.1 h).2.2; unfold outB at this; rw [List.contains_iff_mem.2 ho] at this; cases this))
      go_wp2_with fail
      go_ret
      exact ⟨ret_int (he.out).symm, HW.out.trans' HEY.out⟩
     have hrun : r ∈ runL b := runL_mem.2 ⟨by omega, by omega, by unfold outB; simpa using ho⟩
     have HRUN := Lib.hid hrun
     clear hrun
     by_cases hk0 : k = 0
     ·have hd : decide ((0 : Int) < (k : Int)) = false := decide_eq_false (by omega)
      have hd2 : decide (0 < k) = false := decide_eq_false (by omega)
      have HU : Hid (k = 0 ∨ gt g (k - 1) < gt g k) := Lib.hid (.inl hk0)
      clear hk0
      go_wp2_with fail
      go_loopw [9] (fun jv W => ∃ j : Nat, j ≤ i ∧ jv = .int .i64 j ∧ r ∉ (fs.take j).flatten ∧ Ext Y W) (fun jv _ => i - (intOf jv).toNat)
      case atStart => exact ⟨0, by omega, rfl, by simp, Below.refl _ _⟩
      case round =>
       obtain ⟨j, hj, rfl, hno, hE3⟩ := hrel
       have HNO := Lib.hid hno
       have HE3 := Lib.hid hE3
       replace c0 := cell_ext hE3 c0
       replace hzf := World.block_lt_of_cell? _ _ c0
       simp only at hzf
       by_cases hjt : j < i
       ·have hji : (j : Int) < (i : Int) := by omega
        have hjp : (j : Int) < (ps.length : Int) := by omega
        obtain ⟨fb2, fo2, ga2, gc2, e3, -, hcell2⟩ := fin_cell HFW.out (show j < ps.length by omega)
        cases e3
        obtain ⟨c1, -, hI2⟩ := hcell2 wr (HEY.out.trans' hE3)
        obtain ⟨h, hh⟩ : ∃ h, h = ps[j].2 := ⟨_, rfl⟩
        rw [← hh] at c1 hI2
        obtain ⟨hjl, hhf⟩ := HFI.out j (by omega)
        rw [← hh] at hhf
        have HHF := Lib.hid hhf
        have HI2 := Lib.hid hI2
        clear hcell2 hh hhf hI2 hE3 hno
        go_wp2_with fail
        refine (has_any h r _ _ (HI2.out.ext (by exact xx))).mono ?_
        rintro e Z ⟨rfl, hEZ⟩
        have HEZ := Lib.hid (HE3.out.trans' hEZ)
        clear hEZ
        by_cases hm : r ∈ h
        ·have he : Hid (finErr b (finsOf ps) = 22) := Lib.hid (by
          rw [← HFS.out]
          exact no_twice H0.out (i := i) (j := j) hgl hjt (x := r) (by rw [HHF.out]; exact hm) (by rw [HGF.out]; exact HRM.out))
         go_wp2_with fail
         go_ret
         exact ⟨ret_int (he.out).symm, (HW.out.trans' HEY.out).trans' HEZ.out⟩
        ·have hno2 : r ∉ (fs.take (j + 1)).flatten := by
          rw [take_flat hjl, HHF.out, List.flatten_append, List.mem_append, not_or]
          exact ⟨HNO.out, by simpa using hm⟩
         have HN2 := Lib.hid hno2
         clear hno2
         go_wp2_with fail
         go_roundw
         case rel => exact ⟨j + 1, by omega, by go_num, HN2.out, HEZ.out⟩
         case measure => simp [intOf]; omega
       ·have hji : ¬ ((j : Int) < (i : Int)) := by omega
        have hje : j = i := by omega
        have hpg2 : PreG b (fs.take i) g (k + 1) := HPG.out.step hlt2 (by rw [← HR.out]; exact HRUN.out) (by rw [← HR.out, ← hje]; exact hno) HU.out
        have hb8 := hpg2.len V.out HPRE.out (by omega)
        have hab : 0 ≤ all2 ∧ all2 ≤ 8 := by rw [HA2.out]; omega
        have HP2 := Lib.hid hpg2
        clear hje hno hE3 hpg2 hb8
        go_wp2_with fail
        go_roundw
        case rel => exact ⟨k + 1, all2 + 1, by omega, by go_num, by go_num, by rw [HA2.out]; omega, HP2.out, HXY.out.trans' HE3.out⟩
        case measure => simp [intOf]; omega
     ·obtain ⟨p, rfl⟩ : ∃ p, k = p + 1 := ⟨k - 1, by omega⟩
      have hd : decide ((0 : Int) < ((p + 1 : Nat) : Int)) = true := decide_eq_true (by omega)
      have hw1 : IntKind.i64.wrap (((p + 1 : Nat) : Int) - 1) = (p : Int) := by rw [IntWalk.i64_in _ (by omega)]; omega
      have hpi : (p : Int) < (g.length : Int) := by omega
      obtain ⟨sb2, off2, e2, hci2⟩ := ints_cell HI.out (show p < g.length by omega)
      cases e2
      obtain ⟨d1, -⟩ := hci2 Y HXY.out
      obtain ⟨x, hx⟩ : ∃ x, x = gt g p := ⟨_, rfl⟩
      rw [← hx] at d1
      have HX := Lib.hid hx
      clear hci2 hx hk0
      by_cases hrx : r ≤ x
      ·have he : Hid (finErr b (finsOf ps) = 22) := Lib.hid (by rw [← HFS.out]; exact no_rise H0.out HMEM.out hlt2 (by rw [← HX.out, ← HR.out]; exact hrx))
       go_wp2_with fail
       go_ret
       exact ⟨ret_int (he.out).symm, HW.out.trans' HEY.out⟩
      have HU : Hid (p + 1 = 0 ∨ gt g (p + 1 - 1) < gt g (p + 1)) := Lib.hid (.inr (by rw [Nat.add_sub_cancel, ← HX.out, ← HR.out]; omega))
      go_wp2_with fail
      go_loopw [9] (fun jv W => ∃ j : Nat, j ≤ i ∧ jv = .int .i64 j ∧ r ∉ (fs.take j).flatten ∧ Ext Y W) (fun jv _ => i - (intOf jv).toNat)
      case atStart => exact ⟨0, by omega, rfl, by simp, Below.refl _ _⟩
      case round =>
       obtain ⟨j, hj, rfl, hno, hE3⟩ := hrel
       have HNO := Lib.hid hno
       have HE3 := Lib.hid hE3
       replace c0 := cell_ext hE3 c0
       replace hzf := World.block_lt_of_cell? _ _ c0
       simp only at hzf
       by_cases hjt : j < i
       ·have hji : (j : Int) < (i : Int) := by omega
        have hjp : (j : Int) < (ps.length : Int) := by omega
        obtain ⟨fb2, fo2, ga2, gc2, e3, -, hcell2⟩ := fin_cell HFW.out (show j < ps.length by omega)
        cases e3
        obtain ⟨c1, -, hI2⟩ := hcell2 wr (HEY.out.trans' hE3)
        obtain ⟨h, hh⟩ : ∃ h, h = ps[j].2 := ⟨_, rfl⟩
        rw [← hh] at c1 hI2
        obtain ⟨hjl, hhf⟩ := HFI.out j (by omega)
        rw [← hh] at hhf
        have HHF := Lib.hid hhf
        have HI2 := Lib.hid hI2
        clear hcell2 hh hhf hI2 hE3 hno
        go_wp2_with fail
        refine (has_any h r _ _ (HI2.out.ext (by exact xx))).mono ?_
        rintro e Z ⟨rfl, hEZ⟩
        have HEZ := Lib.hid (HE3.out.trans' hEZ)
        clear hEZ
        by_cases hm : r ∈ h
        ·have he : Hid (finErr b (finsOf ps) = 22) := Lib.hid (by
          rw [← HFS.out]
          exact no_twice H0.out (i := i) (j := j) hgl hjt (x := r) (by rw [HHF.out]; exact hm) (by rw [HGF.out]; exact HRM.out))
         go_wp2_with fail
         go_ret
         exact ⟨ret_int (he.out).symm, (HW.out.trans' HEY.out).trans' HEZ.out⟩
        ·have hno2 : r ∉ (fs.take (j + 1)).flatten := by
          rw [take_flat hjl, HHF.out, List.flatten_append, List.mem_append, not_or]
          exact ⟨HNO.out, by simpa using hm⟩
         have HN2 := Lib.hid hno2
         clear hno2
         go_wp2_with fail
         go_roundw
         case rel => exact ⟨j + 1, by omega, by go_num, HN2.out, HEZ.out⟩
         case measure => simp [intOf]; omega
       ·have hji : ¬ ((j : Int) < (i : Int)) := by omega
        have hje : j = i := by omega
        have hpg2 : PreG b (fs.take i) g (p + 1 + 1) := HPG.out.step hlt2 (by rw [← HR.out]; exact HRUN.out) (by rw [← HR.out, ← hje]; exact hno) HU.out
        have hb8 := hpg2.len V.out HPRE.out (by omega)
        have hab : 0 ≤ all2 ∧ all2 ≤ 8 := by rw [HA2.out]; omega
        have HP2 := Lib.hid hpg2
        clear hje hno hE3 hpg2 hb8
        go_wp2_with fail
        go_roundw
        case rel => exact ⟨p + 1 + 1, all2 + 1, by omega, by go_num, by go_num, by rw [HA2.out]; omega, HP2.out, HXY.out.trans' HE3.out⟩
        case measure => simp [intOf]; omega
    ·have hki : ¬ ((k : Int) < (g.length : Int)) := by omega
     have hkg : k = g.length := by omega
     have hpm : PreF b (fs.take (i + 1)) := by
      rw [take_flat hgl, HGF.out]
      exact HPRE.out.more (by rw [← hkg]; exact HPG.out) HGN.out
     have hal : all2 = ((fs.take (i + 1)).flatten.length : Int) := by
      rw [take_flat hgl, HGF.out, List.flatten_append, List.length_append, HA2.out, hkg]; simp
     have HPM := Lib.hid hpm
     have HAL := Lib.hid hal
     have HFU := Lib.hid (HE.out.trans' hE2)
     clear hpg hall2 hE2 hkg hpm hal
     go_wp2_with fail
     go_roundw
     case rel => exact ⟨i + 1, all2, by omega, by go_num, rfl, HAL.out, HPM.out, HFU.out⟩
     case measure => simp [intOf]; omega
  ·have hii : ¬ ((i : Int) < (ps.length : Int)) := by omega
   have hie : fs.take i = fs := by rw [show i = fs.length by have := HFL.out; omega, List.take_length]
   rw [hie] at hall hpre
   have hwn : IntKind.i64.wrap (b.n - (b.scr.length : Int)) = b.n - b.scr.length := IntWalk.i64_in _ (by omega)
   by_cases hc : all = b.n - b.scr.length
   ·have he : Hid (finErr b (finsOf ps) = 0) := Lib.hid (by rw [← HFS.out]; exact fin_all H0.out hpre (by rw [← hall]; exact hc))
    have hc2 : (all != b.n - b.scr.length) = false := by rw [bne_eq_false_iff_eq]; exact hc
    clear hall hpre hie hE k0 k2 k4 k5 k6 k7 hc
    go_wp2_with fail
    go_ret
    exact ⟨ret_int (he.out).symm, HW.out.trans' HE.out⟩
   ·have he : Hid (finErr b (finsOf ps) = 22) := Lib.hid (by rw [← HFS.out]; exact no_count H0.out (by rw [← hall]; exact hc))
    have hc2 : (all != b.n - b.scr.length) = true := by rw [bne_iff_ne]; exact hc
    clear hall hpre hie hE k0 k2 k4 k5 k6 k7 hc
    go_wp2_with fail
    go_ret
    exact ⟨ret_int (he.out).symm, HW.out.trans' HE.out⟩
end Go.Proofs.Ytphajlldghcnnaa
namespace Go.Proofs.Ytphajlldghcnnaa
def fst0 (fs : List (List Int)) : List Int := fs.headD []
def snd0 (fs : List (List Int)) : List Int := (fs.drop 1).headD []
def alo (fs : List (List Int)) : Bool := decide ((fst0 fs).length = 1)
def isW (b : Bk) (fs : List (List Int)) (a c : Int) : Bool :=
 if b.kd = 0 then decide (c = -1) && (fst0 fs).contains a
 else if b.kd = 1 then decide (c = -1) && ((fst0 fs).contains a || (alo fs && (snd0 fs).contains a))
 else if b.kd = 2 then decide (a ≠ c) && (fst0 fs).contains a && ((!alo fs && (fst0 fs).contains c) || (alo fs && (snd0 fs).contains c))
 else decide (a < c) && ((!alo fs && (fst0 fs).contains a && (fst0 fs).contains c) || (alo fs && (((fst0 fs).contains a && (snd0 fs).contains c) || ((fst0 fs).contains c && (snd0 fs).contains a))))
def twoK (k : Nat) : List Int := (List.range k).map fun (j : Nat) => (j : Int) - 1
def rowW (b : Bk) (fs : List (List Int)) (a : Int) (k : Nat) : List Spt := ((twoK k).filter (isW b fs a)).map fun c => (a, c)
def refW (b : Bk) (fs : List (List Int)) (k : Nat) : List Spt := ((List.range k).map fun (i : Nat) => (i : Int)).flatMap fun a => rowW b fs a (b.n.toNat + 1)
theorem twoK_succ (k : Nat) : twoK (k + 1) = twoK k ++ [(k : Int) - 1] := by
 unfold twoK
 rw [List.range_succ, List.map_append]; rfl
theorem rowW_succ (b : Bk) (fs : List (List Int)) (a : Int) (k : Nat) : rowW b fs a (k + 1) = rowW b fs a k ++ if isW b fs a ((k : Int) - 1) = true then [(a, (k : Int) - 1)] else [] := by
 unfold rowW
 rw [twoK_succ, List.filter_append, List.map_append]
 congr 1
 cases h : isW b fs a ((k : Int) - 1) <;> simp [h]
theorem refW_succ (b : Bk) (fs : List (List Int)) (k : Nat) : refW b fs (k + 1) = refW b fs k ++ rowW b fs k (b.n.toNat + 1) := by
 unfold refW
 rw [List.range_succ, List.map_append, List.flatMap_append]
 simp
theorem rowW_len (b : Bk) (fs : List (List Int)) (a : Int) (k : Nat) : (rowW b fs a k).length ≤ k := by
 unfold rowW
 rw [List.length_map]
 exact Nat.le_trans (List.length_filter_le _ _) (by simp [twoK])
theorem refW_len (b : Bk) (fs : List (List Int)) (k : Nat) : (refW b fs k).length ≤ k * (b.n.toNat + 1) := by
 unfold refW
 have := flatMap_len (f := fun a => rowW b fs a (b.n.toNat + 1)) (c := b.n.toNat + 1) (l := (List.range k).map fun (i : Nat) => (i : Int)) fun x _ => rowW_len b fs x _
 simpa using this
def lexL (p q : Spt) : Prop := p.1 < q.1 ∨ (p.1 = q.1 ∧ p.2 < q.2)
theorem lex_flat {f : Int → List Int} : ∀ {l : List Int}, l.Pairwise (· < ·) → (∀ a ∈ l, (f a).Pairwise (· < ·)) → (l.flatMap fun a => (f a).map fun c => (a, c)).Pairwise lexL
 | [], _, _ => by simp
 | a :: l, h, hf => by
  rw [List.pairwise_cons] at h
  rw [List.flatMap_cons, List.pairwise_append]
  refine ⟨?_, lex_flat h.2 fun x hx => hf x (by simp [hx]), fun p hp q hq => ?_⟩
  ·rw [List.pairwise_map]
   exact (hf a (by simp)).imp fun hlt => .inr ⟨rfl, hlt⟩
  ·obtain ⟨c, _, rfl⟩ := List.mem_map.1 hp
   obtain ⟨a2, ha2, hq2⟩ := List.mem_flatMap.1 hq
   obtain ⟨c2, _, rfl⟩ := List.mem_map.1 hq2
   exact .inl (h.1 a2 ha2)
theorem lex_nodup {l : List Spt} (h : l.Pairwise lexL) : l.Nodup := by
 rw [List.nodup_iff_pairwise_ne]
 exact h.imp fun h e => by subst e; unfold lexL at h; omega
theorem lex_eq {l m : List Spt} (h1 : l.Pairwise lexL) (h2 : m.Pairwise lexL) (h : ∀ x, x ∈ l ↔ x ∈ m) : l = m :=
 List.Perm.eq_of_pairwise (le := lexL) (fun a b _ _ h3 h4 => by unfold lexL at h3 h4; omega) h1 h2 ((List.perm_ext_iff_of_nodup (lex_nodup h1) (lex_nodup h2)).2 h)
theorem twoK_up (k : Nat) : (twoK k).Pairwise (· < ·) := by
 unfold twoK
 rw [List.pairwise_map]
 exact List.pairwise_lt_range.imp fun h => by omega
theorem firsts_up {b : Bk} {fs : List (List Int)} (h : FinV b fs) (k : Nat) : (firstsP fs k).Pairwise (· < ·) := by
 have h1 := firsts_nodup h k
 have h2 : (firstsP fs k).Pairwise (fun a b => decide (a ≤ b) = true) := sortL_sorted _
 rw [List.nodup_iff_pairwise_ne] at h1
 exact (h2.and h1).imp fun ⟨h3, h4⟩ => by simp at h3; omega
theorem firsts_mem {fs : List (List Int)} {k : Nat} {x : Int} : x ∈ firstsP fs k ↔ x ∈ (fs.take k).flatten := (sortL_perm _).mem_iff
theorem take1 {fs : List (List Int)} {x : Int} (h : 0 < fs.length) : x ∈ (fs.take 1).flatten ↔ x ∈ fst0 fs := by
 match fs, h with
 | g :: l, _ => simp [fst0]
theorem take2 {fs : List (List Int)} {x : Int} (h : 2 ≤ fs.length) : x ∈ (fs.take 2).flatten ↔ x ∈ fst0 fs ∨ x ∈ snd0 fs := by
 match fs, h with
 | g :: g2 :: l, _ => simp [fst0, snd0]
theorem one_of {l : List Int} (h : l.length = 1) {x y : Int} (hx : x ∈ l) (hy : y ∈ l) : x = y := by
 match l, h with
 | [z], _ =>
  simp only [List.mem_singleton] at hx hy
  rw [hx, hy]
theorem refW_wins {b : Bk} {fs : List (List Int)} (h : FinV b fs) : refW b fs b.n.toNat = winsP b fs := by
 have hkd := h.book.kd
 have hup := firsts_up h (grp b fs)
 have hrun : ∀ k x, x ∈ (fs.take k).flatten → 0 ≤ x ∧ x < b.n := fun k x hx => by
  have h1 : x ∈ fs.flatten := by
   rw [← List.take_append_drop k fs, List.flatten_append]; simp [hx]
  have := runL_mem.1 (h.perm.symm.subset h1)
  omega
 have hpos := h.pos
 have htwo := h.two
 have hne : 0 < (fst0 fs).length := by
  match fs, hpos, h with
  | g :: l, _, h => exact List.length_pos_iff.2 (h.ne g (by simp))
 obtain ⟨L, hL⟩ : ∃ L, L = firstsP fs (grp b fs) := ⟨_, rfl⟩
 have hrun0 : ∀ x, x ∈ fst0 fs → 0 ≤ x ∧ x < b.n := fun x hx => hrun 1 x ((take1 hpos).2 hx)
 have hmem : ∀ x, x ∈ L ↔ x ∈ (fs.take (grp b fs)).flatten := fun x => by rw [hL]; exact firsts_mem
 unfold winsP
 rw [← hL]
 rw [← hL] at hup
 have hw : ∀ a, winsAt b fs L a = ((if single b = true then [-1] else L.filter (pairP b fs a)) : List Int).map fun c => (a, c) := fun a => by
  unfold winsAt; split <;> simp
 have e1 : (L.flatMap (winsAt b fs L)) = L.flatMap fun a => ((if single b = true then [-1] else L.filter (pairP b fs a)) : List Int).map fun c => (a, c) := by
  congr 1; funext a; exact hw a
 rw [e1]
 refine lex_eq (lex_flat ?_ fun a _ => ?_) (lex_flat hup fun a _ => ?_) fun ⟨a, c⟩ => ?_
 ·rw [List.pairwise_map]
  exact List.pairwise_lt_range.imp fun h => by omega
 ·exact (twoK_up _).filter _
 ·split
  ·simp
  ·exact hup.filter _
 ·have hm1 : (a, c) ∈ refW b fs b.n.toNat ↔ (0 ≤ a ∧ a < b.n) ∧ (-1 ≤ c ∧ c < b.n) ∧ isW b fs a c = true := by
   unfold refW rowW twoK
   rw [List.mem_flatMap]
   constructor
   ·rintro ⟨x, hx, hy⟩
    obtain ⟨i, hi, rfl⟩ := List.mem_map.1 hx
    obtain ⟨y, hy2, he⟩ := List.mem_map.1 hy
    cases he
    obtain ⟨hy3, hy4⟩ := List.mem_filter.1 hy2
    obtain ⟨j, hj, rfl⟩ := List.mem_map.1 hy3
    have h1 := List.mem_range.1 hi
    have h2 := List.mem_range.1 hj
    exact ⟨by omega, by omega, hy4⟩
   ·rintro ⟨h1, h2, h3⟩
    refine ⟨a, List.mem_map.2 ⟨a.toNat, List.mem_range.2 (by omega), by omega⟩, List.mem_map.2 ⟨c, List.mem_filter.2 ⟨List.mem_map.2 ⟨(c + 1).toNat, List.mem_range.2 (by omega), by omega⟩, h3⟩, rfl⟩⟩
  have hm2 : (a, c) ∈ (L.flatMap fun a => ((if single b = true then [-1] else L.filter (pairP b fs a)) : List Int).map fun c => (a, c)) ↔ a ∈ L ∧ ((single b = true ∧ c = -1) ∨ (single b = false ∧ c ∈ L ∧ pairP b fs a c = true)) := by
   rw [List.mem_flatMap]
   constructor
   ·rintro ⟨x, hx, hy⟩
    obtain ⟨y, hy2, he⟩ := List.mem_map.1 hy
    cases he
    refine ⟨hx, ?_⟩
    split at hy2
    ·rename_i hs; exact .inl ⟨hs, by simpa using hy2⟩
    ·rename_i hs; exact .inr ⟨by simpa using hs, (List.mem_filter.1 hy2).1, (List.mem_filter.1 hy2).2⟩
   ·rintro ⟨hx, hy⟩
    refine ⟨a, hx, List.mem_map.2 ⟨c, ?_, rfl⟩⟩
    rcases hy with ⟨hs, rfl⟩ | ⟨hs, h1, h2⟩
    ·rw [if_pos hs]; simp
    ·rw [if_neg (by rw [hs]; simp)]; exact List.mem_filter.2 ⟨h1, h2⟩
  show (a, c) ∈ refW b fs b.n.toNat ↔ _
  rw [hm1, hm2, hmem a, hmem c]
  unfold isW pairP single alo grp at *
  have hf0 : fs.headD [] = fst0 fs := rfl
  rw [hf0] at htwo ⊢
  have hrn := fun x => hrun 2 x
  have hr1 := fun x => hrun 1 x
  by_cases hal : (fst0 fs).length = 1
  ·by_cases k0 : b.kd = 0
   ·rw [if_pos k0, if_neg (by simp [k0]), take1 hpos]
    simp [k0]
    constructor
    ·rintro ⟨_, _, rfl, h3⟩; exact ⟨h3, rfl⟩
    ·rintro ⟨h3, rfl⟩; have := hrun0 a h3; first | exact ⟨this, by omega, rfl, h3⟩ | exact ⟨this, by omega, h3⟩
   ·have hg : b.kd ≠ 0 ∧ (fst0 fs).length = 1 := ⟨k0, hal⟩
    have h2 : 2 ≤ fs.length := by rw [if_pos hg] at htwo; exact htwo
    rw [if_neg k0, if_pos hg, take2 h2, take2 h2]
    have hrn1 : ∀ x, x ∈ fst0 fs ∨ x ∈ snd0 fs → 0 ≤ x ∧ x < b.n := fun x hx => hrn x ((take2 h2).2 hx)
    by_cases k1 : b.kd = 1
    ·rw [if_pos k1]
     simp [k1, hal]
     constructor
     ·rintro ⟨_, _, rfl, h3⟩; exact ⟨h3, rfl⟩
     ·rintro ⟨h3, rfl⟩; have := hrn1 a h3; first | exact ⟨this, by omega, rfl, h3⟩ | exact ⟨this, by omega, h3⟩
    ·rw [if_neg k1]
     have hlt : ¬ 1 < (fst0 fs).length := by omega
     by_cases k2 : b.kd = 2
     ·rw [if_pos k2]
      simp [k2, hal]
      constructor
      ·rintro ⟨_, _, ⟨h3, h4⟩, h5⟩; exact ⟨.inl h4, .inr h5, h3, h4⟩
      ·rintro ⟨_, h6, h3, h4⟩
       have e1 := hrn1 a (.inl h4)
       have e2 := hrn1 c h6
       refine ⟨by omega, by omega, ⟨h3, h4⟩, ?_⟩
       rcases h6 with h6 | h6
       ·exact absurd (one_of hal h4 h6) h3
       ·exact h6
     ·have k3 : b.kd = 3 := by omega
      rw [if_neg k2]
      simp [k3, hal]
      constructor
      ·rintro ⟨_, _, h3, h4⟩
       rcases h4 with ⟨h4, h5⟩ | ⟨h4, h5⟩
       ·exact ⟨.inl h4, .inr h5, ⟨by omega, by omega⟩, .inl h4⟩
       ·exact ⟨.inr h5, .inl h4, ⟨by omega, by omega⟩, .inr h4⟩
      ·rintro ⟨h5, h6, ⟨h3, h4⟩, h7⟩
       have e1 := hrn1 a h5
       have e2 := hrn1 c h6
       refine ⟨by omega, by omega, by omega, ?_⟩
       rcases h7 with h7 | h7
       ·rcases h6 with h6 | h6
        ·exact absurd (one_of hal h7 h6) h3
        ·exact .inl ⟨h7, h6⟩
       ·rcases h5 with h5 | h5
        ·exact absurd (one_of hal h5 h7) h3
        ·exact .inr ⟨h7, h5⟩
  ·have hg : ¬ (b.kd ≠ 0 ∧ (fst0 fs).length = 1) := fun h => hal h.2
   rw [if_neg hg, take1 hpos, take1 hpos]
   have hlt : 1 < (fst0 fs).length := by omega
   by_cases k0 : b.kd = 0
   ·rw [if_pos k0]
    simp [k0]
    constructor
    ·rintro ⟨_, _, rfl, h3⟩; exact ⟨h3, rfl⟩
    ·rintro ⟨h3, rfl⟩; have := hrun0 a h3; first | exact ⟨this, by omega, rfl, h3⟩ | exact ⟨this, by omega, h3⟩
   ·rw [if_neg k0]
    by_cases k1 : b.kd = 1
    ·rw [if_pos k1]
     simp [k1, hal]
     constructor
     ·rintro ⟨_, _, rfl, h3⟩; exact ⟨h3, rfl⟩
     ·rintro ⟨h3, rfl⟩; have := hrun0 a h3; first | exact ⟨this, by omega, rfl, h3⟩ | exact ⟨this, by omega, h3⟩
    ·rw [if_neg k1]
     by_cases k2 : b.kd = 2
     ·rw [if_pos k2]
      simp [k2, hal, hlt]
      constructor
      ·rintro ⟨_, _, ⟨h3, h4⟩, h5⟩; exact ⟨h4, h5, h3⟩
      ·rintro ⟨h4, h5, h3⟩
       have e1 := hrun0 a h4
       have e2 := hrun0 c h5
       exact ⟨by omega, by omega, ⟨h3, h4⟩, h5⟩
     ·have k3 : b.kd = 3 := by omega
      rw [if_neg k2]
      simp [k3, hal, hlt]
      constructor
      ·rintro ⟨_, _, h3, h4, h5⟩; exact ⟨h4, h5, by omega, by omega⟩
      ·rintro ⟨h4, h5, h3, h6⟩
       have e1 := hrun0 a h4
       have e2 := hrun0 c h5
       exact ⟨by omega, by omega, by omega, h4, h5⟩
end Go.Proofs.Ytphajlldghcnnaa
namespace Go.Proofs.Ytphajlldghcnnaa
open Go.RowKit Go.Shelf
theorem fst_of {ps : List (Value × List Int)} (h : 0 < ps.length) : fst0 (finsOf ps) = ps[0].2 := by
 match ps, h with
 | x :: l, _ => rfl
theorem snd_of {ps : List (Value × List Int)} (h : 1 < ps.length) : snd0 (finsOf ps) = ps[1].2 := by
 match ps, h with
 | x :: y :: l, _ => rfl
set_option maxRecDepth 100000 in
set_option maxHeartbeats 8000000 in
theorem isWin_any (ps : List (Value × List Int)) (fa : Option Addr) (fcap : Nat) (one two : Int) (b : Bk) (ba sa : Option Addr) (bcap scap : Nat) (w : World) (hkd : 0 ≤ b.kd ∧ b.kd ≤ 3) (hf : IsFin w (.slice fa ps.length fcap) ps) (h0 : 0 < ps.length) (h2 : grp b (finsOf ps) ≤ ps.length) :
  Calls Try.prog 97 #[.agg #[.int .i64 b.kd, .int .i64 b.n, .slice ba b.bets.length bcap, .slice sa b.scr.length scap, .bool b.fav, .int .i64 b.car, .int .i64 b.duty, .int .i64 b.step], .slice fa ps.length fcap, .int .i64 one, .int .i64 two] w fun e w' => e = .returned (.bool (isW b (finsOf ps) one two)) ∧ Ext w w' := by
 have HF := Lib.hid hf
 have h0i : (0 : Int) < (ps.length : Int) := by omega
 have hn0 : ¬ ps = [] := fun h => by rw [h] at h0; simp at h0
 obtain ⟨fb, fo, ga, gc, rfl, hgl9, hcell⟩ := fin_cell hf h0
 rw [← fst_of h0] at hgl9 hcell
 have H2 := Lib.hid h2
 have HC0 := Lib.hid hcell
 clear hf hcell h2
 go_enter Try.func97, Try.ntmps97
 go_upto_region 1 with (fail)
 obtain ⟨W0, hW0⟩ : ∃ W0, W0 = w.alloc (.cells #[.int .i64 b.kd, .int .i64 b.n, .slice ba b.bets.length bcap, .slice sa b.scr.length scap, .bool b.fav, .int .i64 b.car, .int .i64 b.duty, .int .i64 b.step] 25) := ⟨_, rfl⟩
 have hE : Ext w W0 := by rw [hW0]; exact xx
 have k0 : W0.cell? ⟨w.heap.size, 0, none⟩ = some (.int .i64 b.kd) := by rw [hW0]; simp [go_sem]
 have k1 : W0.cell? ⟨w.heap.size, 1, none⟩ = some (.int .i64 b.n) := by rw [hW0]; simp [go_sem]
 have k2 : W0.cell? ⟨w.heap.size, 2, none⟩ = some (.slice ba b.bets.length bcap) := by rw [hW0]; simp [go_sem]
 have k3 : W0.cell? ⟨w.heap.size, 3, none⟩ = some (.slice sa b.scr.length scap) := by rw [hW0]; simp [go_sem]
 have k4 : W0.cell? ⟨w.heap.size, 4, none⟩ = some (.bool b.fav) := by rw [hW0]; simp [go_sem]
 have k5 : W0.cell? ⟨w.heap.size, 5, none⟩ = some (.int .i64 b.car) := by rw [hW0]; simp [go_sem]
 have k6 : W0.cell? ⟨w.heap.size, 6, none⟩ = some (.int .i64 b.duty) := by rw [hW0]; simp [go_sem]
 have k7 : W0.cell? ⟨w.heap.size, 7, none⟩ = some (.int .i64 b.step) := by rw [hW0]; simp [go_sem]
 have hz := World.block_lt_of_cell? _ _ k0
 simp only at hz
 rw [← hW0]
 obtain ⟨c0, hzf, hI0⟩ := HC0.out W0 hE
 rw [Nat.add_zero] at c0
 obtain ⟨f0, hf0⟩ : ∃ f0, f0 = fst0 (finsOf ps) := ⟨_, rfl⟩
 obtain ⟨s1, hs1⟩ : ∃ s1, s1 = snd0 (finsOf ps) := ⟨_, rfl⟩
 rw [← hf0] at c0 hI0 hgl9
 obtain ⟨al, hal⟩ : ∃ al, al = alo (finsOf ps) := ⟨_, rfl⟩
 have hal2 : ((f0.length : Int) == 1) = al := by
  rw [hal, hf0]; unfold alo
  rw [Bool.eq_iff_iff]; simp; omega
 have hal3 : decide (f0.length = 1) = al := by rw [hal, hf0]; rfl
 obtain ⟨p1, hp1⟩ : ∃ c, c = f0.contains one := ⟨_, rfl⟩
 obtain ⟨p2, hp2⟩ : ∃ c, c = f0.contains two := ⟨_, rfl⟩
 obtain ⟨r1, hr1⟩ : ∃ c, c = s1.contains one := ⟨_, rfl⟩
 obtain ⟨r2, hr2⟩ : ∃ c, c = s1.contains two := ⟨_, rfl⟩
 have t1 := fun W h => has_any f0 one (.slice ga f0.length gc) W h
 have t2 := fun W h => has_any f0 two (.slice ga f0.length gc) W h
 rw [← hp1] at t1
 rw [← hp2] at t2
 have T1 := Lib.hid t1
 have T2 := Lib.hid t2
 have HI0 := Lib.hid hI0
 have HW := Lib.hid hE
 have HQQ : Hid (isW b (finsOf ps) one two = if b.kd = 0 then decide (two = -1) && p1 else if b.kd = 1 then decide (two = -1) && (p1 || (al && r1)) else if b.kd = 2 then decide (one ≠ two) && p1 && ((!al && p2) || (al && r2)) else decide (one < two) && ((!al && p1 && p2) || (al && ((p1 && r2) || (p2 && r1))))) := Lib.hid (by
  unfold isW
  rw [← hal, ← hf0, ← hs1, ← hp1, ← hp2, ← hr1, ← hr2])
 have HS1 : Hid (al = true → b.kd ≠ 0 → (1 : Int) < (ps.length : Int) ∧ ∃ ga1 gc1, W0.cell? ⟨fb, fo + 1, none⟩ = some (.slice ga1 s1.length gc1) ∧ (∀ W, Ext W0 W → Calls Try.prog 49 #[.slice ga1 s1.length gc1, .int .i64 one] W fun e w' => e = .returned (.bool r1) ∧ Ext W w') ∧
   ∀ W, Ext W0 W → Calls Try.prog 49 #[.slice ga1 s1.length gc1, .int .i64 two] W fun e w' => e = .returned (.bool r2) ∧ Ext W w') := Lib.hid (fun ha hk => by
  have hg := H2.out
  unfold grp at hg
  have hl : (fst0 (finsOf ps)).length = 1 := by rw [hal] at ha; exact of_decide_eq_true ha
  rw [if_pos ⟨hk, hl⟩] at hg
  obtain ⟨fb2, fo2, ga1, gc1, e2, -, hc1⟩ := fin_cell HF.out (show 1 < ps.length by omega)
  cases e2
  rw [← snd_of (by omega), ← hs1] at hc1
  obtain ⟨c1, -, hI1⟩ := hc1 W0 hE
  exact ⟨by omega, ga1, gc1, c1, fun W hW => by rw [hr1]; exact has_any s1 one _ W (hI1.ext hW), fun W hW => by rw [hr2]; exact has_any s1 two _ W (hI1.ext hW)⟩)
 clear hW0 hE hf0 hs1 hal hp1 hp2 hr1 hr2 t1 t2 hI0 HC0 HF




 by_cases k00 : b.kd = 0
 ·have HQ : Hid (isW b (finsOf ps) one two = (decide (two = -1) && p1)) := Lib.hid (by rw [HQQ.out, if_pos k00])
  rw [k00] at k0
  clear HS1 HQQ k00
  by_cases h1 : two = -1
  ·have e1 : (two == -1) = true := by simpa using h1
   have H1 := Lib.hid h1
   clear h1

   go_wp2_with fail
   refine callW (W0 := W0) (g := ⟨W0, Below.refl _ _⟩) xx (T1.out _ (HI0.out.ext xx)) fun g1 hgr => ?_
   clear hgr

   go_wp2_with fail
   go_ret
   exact ⟨ret_bool (by rw [HQ.out]; first | rfl | simp [H1.out] | simp), HW.out.trans' (by exact xx)⟩
  ·have e1 : (two == -1) = false := by simpa using h1
   have H1 := Lib.hid h1
   clear h1
   go_wp2_with fail
   go_ret
   exact ⟨ret_bool (by rw [HQ.out]; first | rfl | simp [H1.out] | simp), HW.out.trans' (by exact xx)⟩
 have HK0 := Lib.hid (k00 : b.kd ≠ 0)
 by_cases k01 : b.kd = 1
 ·have HQ : Hid (isW b (finsOf ps) one two = (decide (two = -1) && (p1 || (al && r1)))) := Lib.hid (by rw [HQQ.out, if_neg k00, if_pos k01])
  rw [k01] at k0
  clear HQQ k00 k01
  by_cases h1 : two = -1
  ·have e1 : (two == -1) = true := by simpa using h1
   have H1 := Lib.hid h1
   clear h1

   go_wp2_with fail
   refine callW (W0 := W0) (g := ⟨W0, Below.refl _ _⟩) xx (T1.out _ (HI0.out.ext xx)) fun g2 hgr => ?_
   clear hgr
   cases p1
   ·cases al
    ·skip
     go_wp2_with fail
     go_ret
     exact ⟨ret_bool (by rw [HQ.out]; first | rfl | simp [H1.out] | simp), HW.out.trans' (by exact xx)⟩
    ·skip
     obtain ⟨h1i, ga1, gc1, c1, u1, u2⟩ := HS1.out rfl HK0.out
     have U1 := Lib.hid u1
     have U2 := Lib.hid u2
     have hz1 := World.block_lt_of_cell? _ _ c1
     simp only at hz1
     clear u1 u2 HS1
     go_wp2_with fail
     refine callW (W0 := W0) (g := g2) xx (U1.out _ xx) fun g3 hgr => ?_
     clear hgr
     go_wp2_with fail
     go_ret
     exact ⟨ret_bool (by rw [HQ.out]; first | rfl | simp [H1.out] | simp), HW.out.trans' (by exact xx)⟩
   ·skip
    go_wp2_with fail
    go_ret
    exact ⟨ret_bool (by rw [HQ.out]; first | rfl | simp [H1.out] | simp), HW.out.trans' (by exact xx)⟩
  ·skip

   have e1 : (two == -1) = false := by simpa using h1
   have H1 := Lib.hid h1
   clear h1
   go_wp2_with fail
   go_ret
   exact ⟨ret_bool (by rw [HQ.out]; first | rfl | simp [H1.out] | simp), HW.out.trans' (by exact xx)⟩
 by_cases k02 : b.kd = 2
 ·have HQ : Hid (isW b (finsOf ps) one two = (decide (one ≠ two) && p1 && ((!al && p2) || (al && r2)))) := Lib.hid (by rw [HQQ.out, if_neg k00, if_neg k01, if_pos k02])
  rw [k02] at k0
  clear HQQ k00 k01 k02
  by_cases h1 : one = two
  ·have e1 : (one != two) = false := by simpa using h1
   have H1 := Lib.hid h1
   clear h1
   go_wp2_with fail
   go_ret
   exact ⟨ret_bool (by rw [HQ.out]; first | rfl | simp [H1.out] | simp), HW.out.trans' (by exact xx)⟩
  ·have e1 : (one != two) = true := by simpa using h1
   have H1 := Lib.hid h1
   clear h1

   go_wp2_with fail
   refine callW (W0 := W0) (g := ⟨W0, Below.refl _ _⟩) xx (T1.out _ (HI0.out.ext xx)) fun g4 hgr => ?_
   clear hgr
   cases p1
   ·skip
    go_wp2_with fail
    go_ret
    exact ⟨ret_bool (by rw [HQ.out]; first | rfl | simp [H1.out] | simp), HW.out.trans' (by exact xx)⟩
   ·cases al
    ·skip

     go_wp2_with fail
     refine callW (W0 := W0) (g := g4) xx (T2.out _ (HI0.out.ext xx)) fun g5 hgr => ?_
     clear hgr
     cases p2
     ·skip
      go_wp2_with fail
      go_ret
      exact ⟨ret_bool (by rw [HQ.out]; first | rfl | simp [H1.out] | simp), HW.out.trans' (by exact xx)⟩
     ·skip
      go_wp2_with fail
      go_ret
      exact ⟨ret_bool (by rw [HQ.out]; first | rfl | simp [H1.out] | simp), HW.out.trans' (by exact xx)⟩
    ·skip

     obtain ⟨h1i, ga1, gc1, c1, u1, u2⟩ := HS1.out rfl HK0.out
     have U1 := Lib.hid u1
     have U2 := Lib.hid u2
     have hz1 := World.block_lt_of_cell? _ _ c1
     simp only at hz1
     clear u1 u2 HS1
     go_wp2_with fail
     refine callW (W0 := W0) (g := g4) xx (U2.out _ xx) fun g6 hgr => ?_
     clear hgr
     go_wp2_with fail
     go_ret
     exact ⟨ret_bool (by rw [HQ.out]; first | rfl | simp [H1.out] | simp), HW.out.trans' (by exact xx)⟩
 have hk3 : b.kd = 3 := by omega
 have HQ : Hid (isW b (finsOf ps) one two = (decide (one < two) && ((!al && p1 && p2) || (al && ((p1 && r2) || (p2 && r1)))))) := Lib.hid (by rw [HQQ.out, if_neg k00, if_neg k01, if_neg k02])
 rw [hk3] at k0
 clear HQQ k00 k01 k02 hk3
 go_upto_region 9 with (fail)
 refine wp_region_rove (W0.heap.size) (Nat.le_refl _)
  [sqV (.slice (some ⟨fb, fo, none⟩) ps.length fcap), sqV (.pointer (some ⟨fb, fo, none⟩)), sqV (.slice ga f0.length gc), sqV (.int .i64 one), sqV (.bool p1), sqV (.slice (some ⟨fb, fo, none⟩) ps.length fcap), sqV (.pointer (some ⟨fb, fo, none⟩)), sqV (.slice ga f0.length gc), sqV (.int .i64 two), sqV (.bool p2), sqV (.bool p1), sqV (.bool p2)]
  [true, true, true, true, true, true, true, true, true, true, true, true] [false, false, false, false, false, false, false, false, false, false, false, false] [true, true, true, true, true, true, true, true, true, true, true, true] [true, true, true, true, true, true, true, true, true, true, true, true]
  (by kernel_rfl) (by kernel_rfl) (by decide +kernel) (by decide +kernel) (by decide +kernel) rfl ⟨rfl, rfl⟩ ⟨?s0, ?s1, ?s2, ?s3, ?s4, ?s5, ?s6, ?s7, ?s8, ?s9, ?s10, ?s11, trivial⟩ [some 84, some 85, some 86, some 87, some 88, some 89, some 90, some 91, some 92, some 93, some 10, some 11] rfl rfl ?send
 case s0 =>
  intro val ρ W hE hz hd hA hx
  have o0 : ρ (.tmp 1) = .slice (some ⟨fb, fo, none⟩) ps.length fcap := hA.old 1 (by decide)
  clear hd
  exact runq_val (W' := W) (by simp [execOp, o0, go_sem]) (Below.refl _ _) rfl
 case s1 =>
  intro val ρ W hE hz hd hA hx
  have d0 : ρ (.tmp 84) = .slice (some ⟨fb, fo, none⟩) ps.length fcap := (hA.dep 0 (by decide) 84 rfl).trans (hd 0 (by decide))
  clear hd
  exact runq_val (W' := W) (by simp [execOp, hA.const, d0, hn0, go_sem]) (Below.refl _ _) rfl
 case s2 =>
  intro val ρ W hE hz hd hA hx
  have d1 : ρ (.tmp 85) = .pointer (some ⟨fb, fo, none⟩) := (hA.dep 1 (by decide) 85 rfl).trans (hd 1 (by decide))
  have f_c0 := cell_below hE (by simp only; omega) c0
  clear hd
  exact runq_val (W' := W) (by simp [execOp, d1, f_c0, go_sem]) (Below.refl _ _) rfl
 case s3 =>
  intro val ρ W hE hz hd hA hx
  have o0 : ρ (.tmp 2) = .int .i64 one := hA.old 2 (by decide)
  clear hd
  exact runq_val (W' := W) (by simp [execOp, o0, go_sem]) (Below.refl _ _) rfl
 case s4 =>
  intro val ρ W hE hz hd hA hx
  have d2 : ρ (.tmp 86) = .slice ga f0.length gc := (hA.dep 2 (by decide) 86 rfl).trans (hd 2 (by decide))
  have d3 : ρ (.tmp 87) = .int .i64 one := (hA.dep 3 (by decide) 87 rfl).trans (hd 3 (by decide))
  clear hd
  refine runq_call 49 _ _ rfl #[.slice ga f0.length gc, .int .i64 one] (hA.func _) (by simp [d2, d3]) (fun args W => Try.call49 args W) ((T1.out W (HI0.out.ext hE)).mono ?_)
  rintro e w' ⟨rfl, hb⟩
  exact ⟨_, rfl, hb, rfl⟩
 case s5 =>
  intro val ρ W hE hz hd hA hx
  have o0 : ρ (.tmp 1) = .slice (some ⟨fb, fo, none⟩) ps.length fcap := hA.old 1 (by decide)
  clear hd
  exact runq_val (W' := W) (by simp [execOp, o0, go_sem]) (Below.refl _ _) rfl
 case s6 =>
  intro val ρ W hE hz hd hA hx
  have d5 : ρ (.tmp 89) = .slice (some ⟨fb, fo, none⟩) ps.length fcap := (hA.dep 5 (by decide) 89 rfl).trans (hd 5 (by decide))
  clear hd
  exact runq_val (W' := W) (by simp [execOp, hA.const, d5, hn0, go_sem]) (Below.refl _ _) rfl
 case s7 =>
  intro val ρ W hE hz hd hA hx
  have d6 : ρ (.tmp 90) = .pointer (some ⟨fb, fo, none⟩) := (hA.dep 6 (by decide) 90 rfl).trans (hd 6 (by decide))
  have f_c0 := cell_below hE (by simp only; omega) c0
  clear hd
  exact runq_val (W' := W) (by simp [execOp, d6, f_c0, go_sem]) (Below.refl _ _) rfl
 case s8 =>
  intro val ρ W hE hz hd hA hx
  have o0 : ρ (.tmp 3) = .int .i64 two := hA.old 3 (by decide)
  clear hd
  exact runq_val (W' := W) (by simp [execOp, o0, go_sem]) (Below.refl _ _) rfl
 case s9 =>
  intro val ρ W hE hz hd hA hx
  have d7 : ρ (.tmp 91) = .slice ga f0.length gc := (hA.dep 7 (by decide) 91 rfl).trans (hd 7 (by decide))
  have d8 : ρ (.tmp 92) = .int .i64 two := (hA.dep 8 (by decide) 92 rfl).trans (hd 8 (by decide))
  clear hd
  refine runq_call 49 _ _ rfl #[.slice ga f0.length gc, .int .i64 two] (hA.func _) (by simp [d7, d8]) (fun args W => Try.call49 args W) ((T2.out W (HI0.out.ext hE)).mono ?_)
  rintro e w' ⟨rfl, hb⟩
  exact ⟨_, rfl, hb, rfl⟩
 case s10 =>
  intro val ρ W hE hz hd hA hx
  have d4 : ρ (.tmp 88) = .bool p1 := (hA.dep 4 (by decide) 88 rfl).trans (hd 4 (by decide))
  clear hd
  exact runq_val (W' := W) (by simp [execOp, d4, go_sem]) (Below.refl _ _) rfl
 case s11 =>
  intro val ρ W hE hz hd hA hx
  have d9 : ρ (.tmp 93) = .bool p2 := (hA.dep 9 (by decide) 93 rfl).trans (hd 9 (by decide))
  clear hd
  exact runq_val (W' := W) (by simp [execOp, d9, go_sem]) (Below.refl _ _) rfl
 case send =>
  intro val WW hE hzz hv
  obtain ⟨r0, r1, r2, r3, r4, r5, r6, r7, r8, r9, r10, r11, -⟩ := hv
  have q0 : val 0 = .slice (some ⟨fb, fo, none⟩) ps.length fcap := r0
  have q1 : val 1 = .pointer (some ⟨fb, fo, none⟩) := r1
  have q2 : val 2 = .slice ga f0.length gc := r2
  have q3 : val 3 = .int .i64 one := r3
  have q4 : val 4 = .bool p1 := r4
  have q5 : val 5 = .slice (some ⟨fb, fo, none⟩) ps.length fcap := r5
  have q6 : val 6 = .pointer (some ⟨fb, fo, none⟩) := r6
  have q7 : val 7 = .slice ga f0.length gc := r7
  have q8 : val 8 = .int .i64 two := r8
  have q9 : val 9 = .bool p2 := r9
  have q10 : val 10 = .bool p1 := r10
  have q11 : val 11 = .bool p2 := r11
  clear r0 r1 r2 r3 r4 r5 r6 r7 r8 r9 r10 r11
  obtain ⟨g, rfl⟩ := grow_of hE
  clear hE hzz
  simp only [putD, q0, q1, q2, q3, q4, q5, q6, q7, q8, q9, q10, q11]
  go_frame
  clear q0 q1 q2 q3 q4 q5 q6 q7 q8 q9 q10 q11
  by_cases h1 : one < two
  rotate_left
  ·have HD : Hid (decide (one < two) = false) := Lib.hid (decide_eq_false h1)
   go_wp2_with fail
   go_ret
   exact ⟨ret_bool (by rw [HQ.out, HD.out]; rfl), HW.out.trans' (grow_below W0 g)⟩
  have H1 := Lib.hid h1
  clear h1
  cases al
  ·cases p1 <;> cases p2
   all_goals
    go_wp2_with fail
    go_ret
    exact ⟨ret_bool (by rw [HQ.out]; first | rfl | simp [H1.out] | simp), HW.out.trans' (grow_below W0 g)⟩
  ·skip
   obtain ⟨h1i, ga1, gc1, c1, u1, u2⟩ := HS1.out rfl HK0.out
   have U1 := Lib.hid u1
   have U2 := Lib.hid u2
   have hz1 := World.block_lt_of_cell? _ _ c1
   simp only at hz1
   clear u1 u2 HS1
   have hEg : Ext W0 (grow W0 g) := grow_below W0 g
   cases p1
   ·cases p2
    ·skip
     go_wp2_with fail
     go_ret
     exact ⟨ret_bool (by rw [HQ.out]; first | rfl | simp [H1.out] | simp), HW.out.trans' (by exact xx)⟩
    ·go_wp2_with fail
     refine (U1.out _ (by exact xx)).mono ?_
     rintro e W5 ⟨rfl, hE5⟩
     have hE6 := (HW.out.trans' hEg).trans' hE5
     go_wp2_with fail
     go_ret
     exact ⟨ret_bool (by rw [HQ.out]; first | rfl | simp [H1.out] | simp), hE6⟩
   ·go_wp2_with fail
    refine (U2.out _ (by exact xx)).mono ?_
    rintro e W5 ⟨rfl, hE5⟩
    have hE6 := (HW.out.trans' hEg).trans' hE5
    have c1' := cell_ext (hEg.trans' hE5) c1
    have hz5 := World.block_lt_of_cell? _ _ c1'
    simp only at hz5
    cases r2
    ·cases p2
     ·go_wp2_with fail
      go_ret
      exact ⟨ret_bool (by rw [HQ.out]; first | rfl | simp [H1.out] | simp), hE6⟩
     ·have HE5 := Lib.hid (hEg.trans' hE5)
      clear hE5
      go_wp2_with fail
      refine (U1.out _ (HE5.out.trans' (by exact xx))).mono ?_
      rintro e W7 ⟨rfl, hE7⟩
      have hE8 := hE6.trans' hE7
      go_wp2_with fail
      go_ret
      exact ⟨ret_bool (by rw [HQ.out]; first | rfl | simp [H1.out] | simp), hE8⟩
    ·go_wp2_with fail
     go_ret
     exact ⟨ret_bool (by rw [HQ.out]; first | rfl | simp [H1.out] | simp), hE6⟩
set_option maxRecDepth 100000 in
set_option maxHeartbeats 4000000 in
theorem winOf_any (ps : List (Value × List Int)) (fv : Value) (b : Bk) (ba sa : Option Addr) (bcap scap : Nat) (w : World) (hv : IsBook w b ba bcap sa scap) (hf : IsFin w fv ps) (hfv : FinV b (finsOf ps)) :
  Calls Try.prog 69 #[.agg #[.int .i64 b.kd, .int .i64 b.n, .slice ba b.bets.length bcap, .slice sa b.scr.length scap, .bool b.fav, .int .i64 b.car, .int .i64 b.duty, .int .i64 b.step], fv] w fun e w' => ∃ v, e = .returned v ∧ Ext w w' ∧ Owns w' w.heap.size 71 2 v ((winsP b (finsOf ps)).map twoRow) := by
 obtain ⟨fa, fcap, rfl, hf1, hf2, -⟩ := hf.spec
 have HF := Lib.hid hf
 have V := Lib.hid hfv
 have hvn := hfv.book.n
 have hp0 := hfv.ok.one
 have HP2 := Lib.hid hfv.ok.two
 clear hf hfv
 have HV := Lib.hid hv
 clear hv
 go_enter Try.func69, Try.ntmps69
 go_upto_region 1 with (fail)
 obtain ⟨W0, hW0⟩ : ∃ W0, W0 = w.alloc (.cells #[.int .i64 b.kd, .int .i64 b.n, .slice ba b.bets.length bcap, .slice sa b.scr.length scap, .bool b.fav, .int .i64 b.car, .int .i64 b.duty, .int .i64 b.step] 25) := ⟨_, rfl⟩
 have hE : Ext w W0 := by rw [hW0]; exact xx
 have k0 : W0.cell? ⟨w.heap.size, 0, none⟩ = some (.int .i64 b.kd) := by rw [hW0]; simp [go_sem]
 have k1 : W0.cell? ⟨w.heap.size, 1, none⟩ = some (.int .i64 b.n) := by rw [hW0]; simp [go_sem]
 have k2 : W0.cell? ⟨w.heap.size, 2, none⟩ = some (.slice ba b.bets.length bcap) := by rw [hW0]; simp [go_sem]
 have k3 : W0.cell? ⟨w.heap.size, 3, none⟩ = some (.slice sa b.scr.length scap) := by rw [hW0]; simp [go_sem]
 have k4 : W0.cell? ⟨w.heap.size, 4, none⟩ = some (.bool b.fav) := by rw [hW0]; simp [go_sem]
 have k5 : W0.cell? ⟨w.heap.size, 5, none⟩ = some (.int .i64 b.car) := by rw [hW0]; simp [go_sem]
 have k6 : W0.cell? ⟨w.heap.size, 6, none⟩ = some (.int .i64 b.duty) := by rw [hW0]; simp [go_sem]
 have k7 : W0.cell? ⟨w.heap.size, 7, none⟩ = some (.int .i64 b.step) := by rw [hW0]; simp [go_sem]
 have hz : w.heap.size < W0.heap.size := World.block_lt_of_cell? _ _ k0
 have HS := Lib.hid (HV.out.ext hE)
 have HW := Lib.hid hE
 rw [← hW0]
 clear hW0 HV
 have HFW := Lib.hid (HF.out.ext hE)
 have hw0 := hE.size
 clear hE HF
 go_wp2_with fail
 go_loopw [5, 6] (fun ov iv W => ∃ k : Nat, (k : Int) ≤ b.n ∧ iv = .int .i64 k ∧ Owns W W0.heap.size 71 2 ov ((refW b (finsOf ps) k).map twoRow) ∧ Ext W0 W) (fun _ iv _ => b.n.toNat - (intOf iv).toNat)
 case atStart => exact ⟨0, by omega, rfl, Owns.nil _ _ _ _, Below.refl _ _⟩
 case round =>
  obtain ⟨k, hk, rfl, hown, hE⟩ := hrel
  have HO := Lib.hid hown
  have HE := Lib.hid hE
  have j0 := hE.size
  by_cases hlt : (k : Int) < b.n
  ·have i1 := cell_ext hE k1
   have iz := World.block_lt_of_cell? _ _ i1
   simp only at iz
   clear hown hE
   go_wp2_with fail
   go_loopw [5, 7] (fun ov jv W => ∃ (j : Nat) (z : Int), z = (j : Int) - 1 ∧ z ≤ b.n ∧ jv = .int .i64 z ∧ Owns W W0.heap.size 71 2 ov ((refW b (finsOf ps) k ++ rowW b (finsOf ps) k j).map twoRow) ∧ Ext W0 W) (fun _ jv _ => (b.n + 1).toNat - (intOf jv + 1).toNat)
   case atStart => exact ⟨0, -1, rfl, by omega, rfl, by simpa [rowW, twoK] using HO.out, HE.out⟩
   case round =>
    obtain ⟨j, z, hz1, hzn, rfl, hown, hE2⟩ := hrel
    have HO2 := Lib.hid hown
    have HE2 := Lib.hid hE2
    have HZ1 := Lib.hid hz1
    have hzl : -1 ≤ z := by omega
    obtain ⟨oa, on, oc, rfl⟩ := hown.isSlice
    have j0 := hE2.size
    by_cases hlt2 : z < b.n
    ·have HFU := Lib.hid hE2
     have i0 := cell_ext hE2 k0
     have i1 := cell_ext hE2 k1
     have i2 := cell_ext hE2 k2
     have i3 := cell_ext hE2 k3
     have i4 := cell_ext hE2 k4
     have i5 := cell_ext hE2 k5
     have i6 := cell_ext hE2 k6
     have i7 := cell_ext hE2 k7
     have iz := World.block_lt_of_cell? _ _ i0
     simp only at iz
     obtain ⟨iw, hiw⟩ : ∃ iw, iw = isW b (finsOf ps) k z := ⟨_, rfl⟩
     have t1 := fun W h => isWin_any ps fa fcap k z b ba sa bcap scap W V.out.book.kd h hp0 HP2.out
     rw [← hiw] at t1
     have T1 := Lib.hid t1
     have HIW := Lib.hid hiw
     have hsucc := rowW_succ b (finsOf ps) k j
     rw [← hz1, ← hiw] at hsucc
     have HSU := Lib.hid hsucc
     have hln : (refW b (finsOf ps) k).length ≤ 8 * 9 := Nat.le_trans (refW_len _ _ _) (Nat.mul_le_mul (by omega) (by omega))
     have hlr := rowW_len b (finsOf ps) k j
     have hj9 : (j : Int) ≤ 9 := by omega
     have hwz := HFU.out.size
     clear hown hE2 hiw t1 hsucc hz1
     go_wp2_with fail
     refine (T1.out _ (HFW.out.ext (HFU.out.trans' (by exact xx)))).mono ?_
     rintro e Y ⟨rfl, hEY⟩
     have HEY := Lib.hid hEY
     have hyz := hEY.size
     clear hEY i0 i1 i2 i3 i4 i5 i6 i7 T1 iz
     cases iw
     ·have HS2 := Lib.hid HSU.out
      go_wp2_with fail
      go_roundw
      case rel => exact ⟨j + 1, z + 1, by have := HZ1.out; omega, by omega, by go_num, by rw [HS2.out, if_neg (by simp), List.append_nil]; exact HO2.out.ext HEY.out, HE2.out.trans' HEY.out⟩
      case measure => simp [intOf]; have := HZ1.out; omega
     ·have HLEN : Hid (((refW b (finsOf ps) k ++ rowW b (finsOf ps) k j).map twoRow).length + [twoRow ((k : Int), z)].length ≤ 1000000) := Lib.hid (by rw [List.length_map, List.length_append]; simp; omega)
      go_wp2_with (at_builtin; refine wpOwn rfl (.tmp 25) (.tmp 29) elTwo rfl W0.heap.size rfl ((HO2.out.ext HEY.out).ext (by exact xx)) Y.heap.size 0 1 [twoRow ((k : Int), z)] rfl (by simp [twoRow]) (newRow _ (twoRow ((k : Int), z)) _) (by simp [twoRow, Value.oneCell']) HLEN.out (by simp; omega) ?_)
      intro v' W4 hown4 hb4
      obtain ⟨va, vn, vc, rfl⟩ := hown4.isSlice
      have hE4 : Ext W0 W4 := Below.trans (HE2.out.trans' (HEY.out.trans' (by exact xx : Ext Y (Y.alloc (.cells #[.int .i64 k, .int .i64 z] 71))))) hb4
      have HO4 := Lib.hid hown4
      have HE4 := Lib.hid hE4
      clear hown4 hb4 hE4
      go_wp2_with fail
      go_roundw
      case rel => exact ⟨j + 1, z + 1, by have := HZ1.out; omega, by omega, by go_num, by rw [HSU.out]; simp only [if_true]; rw [← List.append_assoc, List.map_append, List.map_append, List.append_assoc]; exact HO4.out, HE4.out⟩
      case measure => simp [intOf]; have := HZ1.out; omega
    ·have hje : j = b.n.toNat + 1 := by omega
     have HO3 : Hid (Owns wr W0.heap.size 71 2 (.slice oa on oc) ((refW b (finsOf ps) (k + 1)).map twoRow)) := Lib.hid (by rw [refW_succ, ← hje]; exact hown)
     have HFU := Lib.hid hE2
     have i1 := cell_ext hE2 k1
     have iz := World.block_lt_of_cell? _ _ i1
     simp only at iz
     clear hown hE2 hje hz1
     go_wp2_with fail
     go_roundw
     case rel => exact ⟨k + 1, by omega, by go_num, HO3.out, HFU.out⟩
     case measure => simp [intOf]; omega
  ·have hke : k = b.n.toNat := by omega
   obtain ⟨oa, on, oc, rfl⟩ := hown.isSlice
   have HO3 : Hid (Owns wr W0.heap.size 71 2 (.slice oa on oc) ((winsP b (finsOf ps)).map twoRow)) := Lib.hid (by rw [← refW_wins V.out, ← hke]; exact hown)
   have i1 := cell_ext hE k1
   have iz := World.block_lt_of_cell? _ _ i1
   simp only at iz
   clear hown hE hke
   go_wp2_with fail
   refine bodyPost_ret (v := .slice oa on oc) (by simp [results, Try.results69, go_sem]) rfl ?_
   exact ⟨_, rfl, HW.out.trans' HE.out, HO3.out.base hw0⟩
set_option maxRecDepth 100000 in
set_option maxHeartbeats 1000000 in
theorem refWin_any (ps : List (Value × List Int)) (fv : Value) (b : Bk) (ba sa : Option Addr) (bcap scap : Nat) (w : World) (hv : IsBook w b ba bcap sa scap) (hf : IsFin w fv ps) :
  Calls Try.prog 28 #[.agg #[.int .i64 b.kd, .int .i64 b.n, .slice ba b.bets.length bcap, .slice sa b.scr.length scap, .bool b.fav, .int .i64 b.car, .int .i64 b.duty, .int .i64 b.step], fv] w (RetWin w b (finsOf ps)) := by
 obtain ⟨fa, fcap, rfl, hf1, hf2, -⟩ := hf.spec
 have HF := Lib.hid hf
 clear hf
 have HV := Lib.hid hv
 clear hv
 go_enter Try.func28, Try.ntmps28
 go_upto_region 1 with (fail)
 obtain ⟨W0, hW0⟩ : ∃ W0, W0 = w.alloc (.cells #[.int .i64 b.kd, .int .i64 b.n, .slice ba b.bets.length bcap, .slice sa b.scr.length scap, .bool b.fav, .int .i64 b.car, .int .i64 b.duty, .int .i64 b.step] 25) := ⟨_, rfl⟩
 have hE : Ext w W0 := by rw [hW0]; exact xx
 have k0 : W0.cell? ⟨w.heap.size, 0, none⟩ = some (.int .i64 b.kd) := by rw [hW0]; simp [go_sem]
 have k1 : W0.cell? ⟨w.heap.size, 1, none⟩ = some (.int .i64 b.n) := by rw [hW0]; simp [go_sem]
 have k2 : W0.cell? ⟨w.heap.size, 2, none⟩ = some (.slice ba b.bets.length bcap) := by rw [hW0]; simp [go_sem]
 have k3 : W0.cell? ⟨w.heap.size, 3, none⟩ = some (.slice sa b.scr.length scap) := by rw [hW0]; simp [go_sem]
 have k4 : W0.cell? ⟨w.heap.size, 4, none⟩ = some (.bool b.fav) := by rw [hW0]; simp [go_sem]
 have k5 : W0.cell? ⟨w.heap.size, 5, none⟩ = some (.int .i64 b.car) := by rw [hW0]; simp [go_sem]
 have k6 : W0.cell? ⟨w.heap.size, 6, none⟩ = some (.int .i64 b.duty) := by rw [hW0]; simp [go_sem]
 have k7 : W0.cell? ⟨w.heap.size, 7, none⟩ = some (.int .i64 b.step) := by rw [hW0]; simp [go_sem]
 have hz : w.heap.size < W0.heap.size := World.block_lt_of_cell? _ _ k0
 have HS := Lib.hid (HV.out.ext hE)
 have HW := Lib.hid hE
 rw [← hW0]
 clear hW0 HV
 have HFW := Lib.hid (HF.out.ext hE)
 clear hE HF




 go_wp2_with fail
 refine callW (W0 := W0) (g := ⟨W0, Below.refl _ _⟩) xx (refFin_any ps _ b ba sa bcap scap _ (HS.out.ext xx) (HFW.out.ext xx)) fun g1 hgr => ?_
 clear hgr
 obtain ⟨er, her⟩ : ∃ er, er = finErr b (finsOf ps) := ⟨_, rfl⟩
 rw [← her]

 by_cases h0 : er = 0
 rotate_left
 ·have f1 : (er != 0) = true := by simpa using h0
  have HER := Lib.hid her
  have HNE := Lib.hid h0
  clear her h0
  go_wp2_with fail
  refine callW (W0 := W0) (g := g1) xx (refFin_any ps _ b ba sa bcap scap _ (HS.out.ext xx) (HFW.out.ext xx)) fun g2 hgr => ?_
  clear hgr
  rw [← HER.out]
  go_wp2_with fail
  refine bodyPost_ret (v := .tuple #[.slice none 0 0, .int .i64 er]) (by simp [results, Try.results28, go_sem]) rfl ?_
  have e0 : winL b (finsOf ps) = [] := by unfold winL; rw [if_neg (by rw [← HER.out]; exact HNE.out)]
  exact ⟨HW.out.trans' (grow_below W0 _), _, by rw [HER.out], by rw [e0]; exact ⟨none, 0, rfl, by simp, by simp, .inl rfl⟩⟩

 subst h0
 have H0 := Lib.hid her.symm
 clear her
 go_wp2_with fail
 refine callWR (W0 := W0) (g := g1) xx (winOf_any ps _ b ba sa bcap scap _ (HS.out.ext xx) (HFW.out.ext xx) (finV_of H0.out)) (fun _ _ ⟨_, _, r, _⟩ => r) fun _ g3 hgr hr => ?_
 obtain ⟨v, rfl, -, hown⟩ := hr
 clear hgr
 obtain ⟨oa, on, oc, rfl⟩ := hown.isSlice
 have HO := Lib.hid hown
 clear hown
 go_wp2_with fail
 refine bodyPost_ret (v := .tuple #[.slice oa on oc, .int .i64 0]) (by simp [results, Try.results28, go_sem]) rfl ?_
 have e0 : winL b (finsOf ps) = winsP b (finsOf ps) := by unfold winL; rw [if_pos H0.out]
 exact ⟨HW.out.trans' (grow_below W0 _), _, by rw [H0.out], by rw [e0]; exact HO.out.isRows⟩
end Go.Proofs.Ytphajlldghcnnaa
