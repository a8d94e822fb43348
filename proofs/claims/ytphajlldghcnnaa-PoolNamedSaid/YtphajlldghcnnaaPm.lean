/-
 The walk of Scratch.
 The walks of the law's small functions: Bet, Book, pairs, in, div, Dividends, twos, ints, great, far.
 Plain: the values of the chapter's examples.
 Finishes that are laid by literals; an account's variable.
 The walk of Works.
-/
import Derived.Test.YtphajlldghcnnaaPk
import Derived.Test.YtphajlldghcnnaaPj
import Derived.Test.YtphajlldghcnnaaPl
namespace Go.Proofs.Ytphajlldghcnnaa
open Go.RowKit Go.Shelf
def scrErr (b : Bk) (r : Int) : Int := if bkErr b ≠ 0 then bkErr b else if isRun b.n r = false then 3 else if outB b r = true then 11 else if (b.scr.length : Int) = b.n - 2 then 10 else 0
def scrP (b : Bk) (r : Int) : Bk := { b with scr := sortL (b.scr ++ [r]) }
def noBook : Value := .agg #[.int .i64 0, .int .i64 0, .slice none 0 0, .slice none 0 0, .bool false, .int .i64 0, .int .i64 0, .int .i64 0]
def bookV (b : Bk) (ba : Option Addr) (bcap : Nat) (sa : Option Addr) (scap : Nat) : Value := .agg #[.int .i64 b.kd, .int .i64 b.n, .slice ba b.bets.length bcap, .slice sa b.scr.length scap, .bool b.fav, .int .i64 b.car, .int .i64 b.duty, .int .i64 b.step]
def zRow : Array Value := #[.int .i64 0, .int .i64 0, .slice none 0 0, .slice none 0 0, .bool false, .int .i64 0, .int .i64 0, .int .i64 0]
def RowB (W : World) (g : Nat) (vs : Array Value) : Prop := W.heap[g]? = some (.cells vs 25 (0, 0))
theorem RowB.cell {W : World} {g : Nat} {vs : Array Value} (h : RowB W g vs) (j : Nat) : W.cell? ⟨g, j, none⟩ = vs[j]? := cell_of_row _ _ _ _ _ _ h
theorem RowB.fr {W : World} {g : Nat} {vs : Array Value} (h : RowB W g vs) (o : Nat) : W.frozen? ⟨g, o, none⟩ = false := by
 have h' : W.heap[g]? = _ := h
 simp [World.frozen?, h']
theorem RowB.lt {W : World} {g : Nat} {vs : Array Value} (h : RowB W g vs) : g < W.heap.size := (Array.getElem?_eq_some_iff.1 h).1
theorem RowB.ext {W W' : World} {g : Nat} {vs : Array Value} (h : RowB W g vs) (e : Ext W W') : RowB W' g vs := (e.block _ h.lt).trans h
theorem ext_set8 {w W : World} (h : Ext w W) {g : Nat} (hg : w.heap.size ≤ g) (a b c d e f x y : Value) : Ext w ((((((((W.setCell ⟨g, 0, none⟩ a).setCell ⟨g, 1, none⟩ b).setCell ⟨g, 2, none⟩ c).setCell ⟨g, 3, none⟩ d).setCell ⟨g, 4, none⟩ e).setCell ⟨g, 5, none⟩ f).setCell ⟨g, 6, none⟩ x).setCell ⟨g, 7, none⟩ y) :=
 (((((((h.setCell hg _).setCell hg _).setCell hg _).setCell hg _).setCell hg _).setCell hg _).setCell hg _).setCell hg _
def RetScr (w : World) (b : Bk) (r : Int) (e : Ending) (w' : World) : Prop :=
 Ext w w' ∧ ((scrErr b r ≠ 0 ∧ e = .returned (.tuple #[noBook, .int .i64 (scrErr b r)])) ∨
  (scrErr b r = 0 ∧ ∃ (ba sa : Option Addr) (bcap scap : Nat), e = .returned (.tuple #[bookV (scrP b r) ba bcap sa scap, .int .i64 0]) ∧ IsBook w' (scrP b r) ba bcap sa scap))
set_option maxRecDepth 100000 in
set_option maxHeartbeats 4000000 in
theorem scratch_any (r : Int) (b : Bk) (ba sa : Option Addr) (bcap scap : Nat) (w : World) (hv : IsBook w b ba bcap sa scap) :
  Calls Try.prog 19 #[.agg #[.int .i64 b.kd, .int .i64 b.n, .slice ba b.bets.length bcap, .slice sa b.scr.length scap, .bool b.fav, .int .i64 b.car, .int .i64 b.duty, .int .i64 b.step], .int .i64 r] w (RetScr w b r) := by
 have HV := Lib.hid hv
 clear hv
 go_enter Try.func19, Try.ntmps19
 go_upto_region 1 with (fail)
 obtain ⟨W0, hW0⟩ : ∃ W0, W0 = (w.alloc (.cells #[.int .i64 b.kd, .int .i64 b.n, .slice ba b.bets.length bcap, .slice sa b.scr.length scap, .bool b.fav, .int .i64 b.car, .int .i64 b.duty, .int .i64 b.step] 25)).alloc (.cells #[.int .i64 0, .int .i64 0, .slice none 0 0, .slice none 0 0, .bool false, .int .i64 0, .int .i64 0, .int .i64 0] 25) := ⟨_, rfl⟩
 have hE0 : Ext w W0 := by rw [hW0]; exact xx
 have hbk0 : BookAt W0 w.heap.size b ba bcap sa scap := by rw [hW0]; constructor <;> simp [go_sem]
 have hzr : RowB W0 (w.heap.size + 1) zRow := by
  rw [hW0]
  have := World.alloc_heap_new (w.alloc (.cells #[.int .i64 b.kd, .int .i64 b.n, .slice ba b.bets.length bcap, .slice sa b.scr.length scap, .bool b.fav, .int .i64 b.car, .int .i64 b.duty, .int .i64 b.step] 25)) (.cells #[.int .i64 0, .int .i64 0, .slice none 0 0, .slice none 0 0, .bool false, .int .i64 0, .int .i64 0, .int .i64 0] 25)
  rwa [World.size_alloc] at this
 rw [← hW0]
 have k0 := (hbk0).c0
 have k1 := (hbk0).c1
 have k2 := (hbk0).c2
 have k3 := (hbk0).c3
 have k4 := (hbk0).c4
 have k5 := (hbk0).c5
 have k6 := (hbk0).c6
 have k7 := (hbk0).c7
 have hz := (hbk0).lt
 have HE0 := Lib.hid hE0
 have HBK0 := Lib.hid hbk0
 have HZ0 := Lib.hid hzr
 clear hW0 hE0 hbk0 hzr
 go_wp2_with fail
 refine (open_any b ba sa bcap scap _ (HV.out.ext HE0.out)).mono ?_
 rintro e W1 ⟨hE1, ⟨hne, rfl⟩ | ⟨h0, p, m, rfl, hp, hT⟩⟩
 ·obtain ⟨er, her⟩ : ∃ er, er = bkErr b := ⟨_, rfl⟩
  rw [← her] at hne ⊢
  have f1 : (er != 0) = true := by simpa using hne
  have HE1 := Lib.hid (HE0.out.trans' hE1)
  have HER := Lib.hid her
  have HNE := Lib.hid hne
  have hz := HZ0.out.ext hE1
  have z0 := (hz).cell 0
  have z1 := (hz).cell 1
  have z2 := (hz).cell 2
  have z3 := (hz).cell 3
  have z4 := (hz).cell 4
  have z5 := (hz).cell 5
  have z6 := (hz).cell 6
  have z7 := (hz).cell 7
  have zf := fun o => (hz).fr o
  have zz := (hz).lt
  simp only [zRow, List.getElem?_toArray, List.getElem?_cons_zero, List.getElem?_cons_succ] at z0 z1 z2 z3 z4 z5 z6 z7
  clear her hne hE1 hz k0 k1 k2 k3 k4 k5 k6 k7
  go_wp2_with fail
  refine bodyPost_ret (v := .tuple #[noBook, .int .i64 er]) (by simp [results, Try.results19, go_sem, noBook, z0, z1, z2, z3, z4, z5, z6, z7]) rfl ?_
  have e1 : scrErr b r = er := by unfold scrErr; rw [← HER.out, if_pos HNE.out]
  exact ⟨ext_set8 HE1.out (Nat.le_succ _) _ _ _ _ _ _ _ _, .inl ⟨by rw [e1]; exact HNE.out, by rw [e1]⟩⟩
 have V := Lib.hid (bval_of h0)
 have H0 := Lib.hid h0
 have HT1 := Lib.hid hT
 have HE1 := Lib.hid (HE0.out.trans' hE1)
 have HBK1 := Lib.hid (HBK0.out.ext hE1)
 have HZ1 := Lib.hid (HZ0.out.ext hE1)
 have HS1 := Lib.hid (HV.out.ext HE1.out)
 clear hE1 h0 hT k0 k1 k2 k3 k4 k5 k6 k7
 have hbk := HBK1.out
 have k0 := (hbk).c0
 have k1 := (hbk).c1
 have k2 := (hbk).c2
 have k3 := (hbk).c3
 have k4 := (hbk).c4
 have k5 := (hbk).c5
 have k6 := (hbk).c6
 have k7 := (hbk).c7
 have hz := (hbk).lt
 clear hbk
 go_wp2_with fail
 refine (isRunner_any b ba sa bcap scap _ [r] _ (isInts_one (by omega) (by omega) (by simp [go_sem]))).mono ?_
 rintro e W2 ⟨rfl, hE2⟩
 rw [all_one]
 have hE12 : Ext W1 W2 := Ext.trans' (by exact xx) hE2
 have HE2 := Lib.hid (HE1.out.trans' hE12)
 have HBK2 := Lib.hid (HBK1.out.ext hE12)
 have hzr := HZ1.out.ext hE12
 have HZ2 := Lib.hid hzr
 have HT2 := Lib.hid (HT1.out.ext hE12)
 have HS2 := Lib.hid (HS1.out.ext hE12)
 clear hE2 hE12 k0 k1 k2 k3 k4 k5 k6 k7
 rcases hr : isRun b.n r with _ | _
 ·have e1 : Hid (scrErr b r = 3) := Lib.hid (by unfold scrErr; rw [if_neg (fun h => h H0.out), if_pos hr])
  have z0 := (hzr).cell 0
  have z1 := (hzr).cell 1
  have z2 := (hzr).cell 2
  have z3 := (hzr).cell 3
  have z4 := (hzr).cell 4
  have z5 := (hzr).cell 5
  have z6 := (hzr).cell 6
  have z7 := (hzr).cell 7
  have zf := fun o => (hzr).fr o
  have zz := (hzr).lt
  simp only [zRow, List.getElem?_toArray, List.getElem?_cons_zero, List.getElem?_cons_succ] at z0 z1 z2 z3 z4 z5 z6 z7
  clear hr hzr
  go_wp2_with fail
  refine bodyPost_ret (v := .tuple #[noBook, .int .i64 3]) (by simp [results, Try.results19, go_sem, noBook, z0, z1, z2, z3, z4, z5, z6, z7]) rfl ?_
  exact ⟨ext_set8 HE2.out (Nat.le_succ _) _ _ _ _ _ _ _ _, .inl ⟨by rw [e1.out]; decide, by rw [e1.out]⟩⟩
 have HR := Lib.hid hr
 clear hr hzr
 have t3 := HT2.out.till.c3
 have hzp := HT2.out.till.lt
 go_wp2_with fail
 refine (out_any b sa scap r p _ t3 HS2.out.scr).mono ?_
 rintro e W3 ⟨rfl, hE3⟩
 have HE3 := Lib.hid (HE2.out.trans' hE3)
 have HBK3 := Lib.hid (HBK2.out.ext hE3)
 have hzr := HZ2.out.ext hE3
 have HZ3 := Lib.hid hzr
 have HS3 := Lib.hid (HS2.out.ext hE3)
 clear hE3 t3 hzp
 rcases ho : outB b r with _ | _
 case true =>
  have e1 : Hid (scrErr b r = 11) := Lib.hid (by unfold scrErr; rw [if_neg (fun h => h H0.out), if_neg (by rw [HR.out]; decide), if_pos ho])
  have z0 := (hzr).cell 0
  have z1 := (hzr).cell 1
  have z2 := (hzr).cell 2
  have z3 := (hzr).cell 3
  have z4 := (hzr).cell 4
  have z5 := (hzr).cell 5
  have z6 := (hzr).cell 6
  have z7 := (hzr).cell 7
  have zf := fun o => (hzr).fr o
  have zz := (hzr).lt
  simp only [zRow, List.getElem?_toArray, List.getElem?_cons_zero, List.getElem?_cons_succ] at z0 z1 z2 z3 z4 z5 z6 z7
  clear ho hzr
  go_wp2_with fail
  refine bodyPost_ret (v := .tuple #[noBook, .int .i64 11]) (by simp [results, Try.results19, go_sem, noBook, z0, z1, z2, z3, z4, z5, z6, z7]) rfl ?_
  exact ⟨ext_set8 HE3.out (Nat.le_succ _) _ _ _ _ _ _ _ _, .inl ⟨by rw [e1.out]; decide, by rw [e1.out]⟩⟩
 have HO := Lib.hid ho
 clear ho hzr
 have hbk := HBK3.out
 have k0 := (hbk).c0
 have k1 := (hbk).c1
 have k2 := (hbk).c2
 have k3 := (hbk).c3
 have k4 := (hbk).c4
 have k5 := (hbk).c5
 have k6 := (hbk).c6
 have k7 := (hbk).c7
 have hz := (hbk).lt
 clear hbk
 have hn := V.out.n
 have hw2 : IntKind.i64.wrap (b.n - 2) = b.n - 2 := IntWalk.i64_in _ (by omega)
 by_cases hf : (b.scr.length : Int) = b.n - 2
 ·have f1 : ((b.scr.length : Int) == b.n - 2) = true := by rw [hf]; exact beq_self_eq_true _
  have f2 : decide ((b.scr.length : Int) = b.n - 2) = true := decide_eq_true hf
  have e1 : Hid (scrErr b r = 10) := Lib.hid (by unfold scrErr; rw [if_neg (fun h => h H0.out), if_neg (by rw [HR.out]; decide), if_neg (by rw [HO.out]; decide), if_pos hf])
  have hzr := HZ3.out
  have z0 := (hzr).cell 0
  have z1 := (hzr).cell 1
  have z2 := (hzr).cell 2
  have z3 := (hzr).cell 3
  have z4 := (hzr).cell 4
  have z5 := (hzr).cell 5
  have z6 := (hzr).cell 6
  have z7 := (hzr).cell 7
  have zf := fun o => (hzr).fr o
  have zz := (hzr).lt
  simp only [zRow, List.getElem?_toArray, List.getElem?_cons_zero, List.getElem?_cons_succ] at z0 z1 z2 z3 z4 z5 z6 z7
  clear hf hzr
  go_wp2_with fail
  refine bodyPost_ret (v := .tuple #[noBook, .int .i64 10]) (by simp [results, Try.results19, go_sem, noBook, z0, z1, z2, z3, z4, z5, z6, z7]) rfl ?_
  exact ⟨ext_set8 HE3.out (Nat.le_succ _) _ _ _ _ _ _ _ _, .inl ⟨by rw [e1.out]; decide, by rw [e1.out]⟩⟩
 have f1 : ((b.scr.length : Int) == b.n - 2) = false := beq_eq_false_iff_ne.2 hf
 have e1 : Hid (scrErr b r = 0) := Lib.hid (by unfold scrErr; rw [if_neg (fun h => h H0.out), if_neg (by rw [HR.out]; decide), if_neg (by rw [HO.out]; decide), if_neg hf])
 go_upto_region 11 with (fail)
 obtain ⟨U, hU⟩ : ∃ U, U = W3.alloc (.cells #[.int .i64 b.kd, .int .i64 b.n, .slice ba b.bets.length bcap, .slice sa b.scr.length scap, .bool b.fav, .int .i64 b.car, .int .i64 b.duty, .int .i64 b.step] 25) := ⟨_, rfl⟩
 have hEU : Ext W3 U := by rw [hU]; exact xx
 have hxr : RowB U W3.heap.size #[.int .i64 b.kd, .int .i64 b.n, .slice ba b.bets.length bcap, .slice sa b.scr.length scap, .bool b.fav, .int .i64 b.car, .int .i64 b.duty, .int .i64 b.step] := by rw [hU]; exact World.alloc_heap_new W3 _
 have hUz : U.heap.size = W3.heap.size + 1 := by rw [hU]; simp
 rw [← hU]
 have hN := V.out.many
 obtain ⟨Wm, cur, hmk, hcur, hcz, hEm⟩ := make_bets U b.bets.length (by omega)
 have hbkU := HBK3.out.ext hEU
 have u2 := hbkU.c2
 have u3 := hbkU.c3
 have huz := hbkU.lt
 have hxm := hxr.ext hEm
 have xm2 := hxm.cell 2
 have xmf := hxm.fr 2
 have hmz := hEm.size
 have hxz := hxm.lt
 simp only [List.getElem?_toArray, List.getElem?_cons_zero, List.getElem?_cons_succ] at xm2
 have HEU := Lib.hid hEU
 have HEM := Lib.hid hEm
 have HCUR := Lib.hid hcur
 have HCZ := Lib.hid hcz
 have HXM := Lib.hid hxm
 have HBU := Lib.hid hbkU
 clear hU hEU hxr hEm hcur hcz hxm hbkU k0 k1 k2 k3 k4 k5 k6 k7 hf f1
 go_upto_region 12 with (fail)
 obtain ⟨X1, hX1⟩ : ∃ X1, X1 = Wm.setCell ⟨W3.heap.size, 2, none⟩ (.slice (some ⟨W3.heap.size + 1, 0, none⟩) b.bets.length b.bets.length) := ⟨_, rfl⟩
 have hE1 : Ext W3 X1 := by rw [hX1]; exact (HEU.out.trans' HEM.out).setCell (Nat.le_refl _) _
 have hc1 : X1.heap[W3.heap.size + 1]? = some (.cells cur 62 (0, 0)) := by
  rw [hX1, Below.heap_setCell _ _ _ _ (by simp)]
  have := HCUR.out
  rwa [hUz] at this
 have hr1 : RowB X1 W3.heap.size #[.int .i64 b.kd, .int .i64 b.n, .slice (some ⟨W3.heap.size + 1, 0, none⟩) b.bets.length b.bets.length, .slice sa b.scr.length scap, .bool b.fav, .int .i64 b.car, .int .i64 b.duty, .int .i64 b.step] := by
  rw [hX1]; exact heap_setCell_row HXM.out 2 _
 rw [← hX1]
 obtain ⟨Xc, hcp, hkc, hbc⟩ := copy_bets X1 (W3.heap.size + 1) b.bets.length cur b.bets ba bcap 3 hc1 HCZ.out (HS3.out.bets.ext hE1) (by omega)
 have r12 := hr1.cell 2
 have b1 := HBK3.out.ext hE1
 have v2 := b1.c2
 have vz := b1.lt
 have vrz := hr1.lt
 simp only [List.getElem?_toArray, List.getElem?_cons_zero, List.getElem?_cons_succ] at r12
 have HC1 := Lib.hid hc1
 have HR1 := Lib.hid hr1
 have HE1X := Lib.hid hE1
 have HKC := Lib.hid hkc
 have HBC := Lib.hid hbc
 clear hX1 hE1 hc1 hr1 hkc hbc b1 hmk u2 u3 huz xm2 xmf hmz hxz
 go_upto_region 13 with (fail)
 have hEc : Ext W3 Xc := HE1X.out.trans (Kept.below (HKC.out.mono (T := fun k => k < W3.heap.size) fun k _ h => by omega) HE1X.out.size)
 have hrc : RowB Xc W3.heap.size #[.int .i64 b.kd, .int .i64 b.n, .slice (some ⟨W3.heap.size + 1, 0, none⟩) b.bets.length b.bets.length, .slice sa b.scr.length scap, .bool b.fav, .int .i64 b.car, .int .i64 b.duty, .int .i64 b.step] :=
  (HKC.out.same _ HR1.out.lt (by omega)).trans HR1.out
 have bc := HBK3.out.ext hEc
 have y3 := bc.c3
 have yz := bc.lt
 have hsc := HS3.out.scr.ext (hEc.trans' (by exact (Ext.al (Below.refl _ Xc) (.cells #[.int .i64 r] 3)) : Ext Xc (Xc.alloc (.cells #[.int .i64 r] 3))))
 obtain ⟨-, hcap1, hcap2⟩ := HS3.out.caps
 have hsn : b.scr.length ≤ 1000 := by
  have h1 := runL_len V.out
  have h2 := runL_two V.out
  omega
 obtain ⟨va, w4, hap, hown, hEa⟩ := app_one _ sa scap b.scr 23 hsc hsn Xc.heap.size r (newRow Xc [.int .i64 r] _)
 obtain ⟨L, hL⟩ : ∃ L, L = b.scr ++ [r] := ⟨_, rfl⟩
 rw [← hL] at hown
 obtain ⟨g, lc, rfl, hg1, hg2, hgB, hNg⟩ := Owns.cellsN hown (by rw [hL]; simp)
 have hEc4 : Ext Xc w4 := Ext.trans' (by exact xx) hEa
 have hr4 := hrc.ext hEc4
 have r43 := hr4.cell 3
 have r4f := hr4.fr 3
 have r4z := hr4.lt
 simp only [List.getElem?_toArray, List.getElem?_cons_zero, List.getElem?_cons_succ] at r43
 simp only [World.size_alloc] at hgB
 have HAP := Lib.hid hap
 have HLL := Lib.hid hL
 have HEC := Lib.hid hEc
 have HEC4 := Lib.hid hEc4
 have HR4 := Lib.hid hr4
 have HNG := Lib.hid hNg
 clear hEc hrc bc hsc hown hEa hEc4 hr4 hNg hL hcp v2 vz r12 vrz hap
 go_wp2_with (at_builtin; refine wpAppRun rfl (.tmp 59) (.tmp 61) rfl rfl rfl HAP.out ?_)
 have hgW : W3.heap.size + 1 < g := by
  have h1 := HKC.out.size
  have h2 := (Array.getElem?_eq_some_iff.1 HC1.out).1
  omega
 have hn5 : NumB (w4.setCell ⟨W3.heap.size, 3, none⟩ (.slice (some ⟨g, 0, none⟩) L.length lc)) g L.length (gt L) := HNG.out.of_heap (Below.heap_setCell _ _ _ _ (by simp only; omega))
 have hL9 : L.length ≤ 1000 + 1 := by rw [HLL.out, List.length_append]; simp; omega
 refine (sortI_any g lc L _ hn5 (by omega)).mono ?_
 rintro e w6 ⟨rfl, hk6, hn6⟩
 have hrow : RowB w6 W3.heap.size #[.int .i64 b.kd, .int .i64 b.n, .slice (some ⟨W3.heap.size + 1, 0, none⟩) b.bets.length b.bets.length, .slice (some ⟨g, 0, none⟩) L.length lc, .bool b.fav, .int .i64 b.car, .int .i64 b.duty, .int .i64 b.step] :=
  (hk6.same _ (by simp only [World.setCell]; have := HR4.out.lt; simpa using this) (by omega)).trans (heap_setCell_row HR4.out 3 _)
 have hE36 : Ext W3 w6 := ext_kept ((HEC.out.trans' HEC4.out).setCell (Nat.le_refl _) _) hk6 (by omega)
 have hzr := HZ3.out.ext hE36
 have hbets : IsBets w6 (.slice (some ⟨W3.heap.size + 1, 0, none⟩) b.bets.length b.bets.length) b.bets :=
  IsRows.kept (S := fun k => k ≠ W3.heap.size ∧ k ≠ g) (((Kept.of_below HEC4.out).setCell (fun _ h => h.1 rfl) _).trans (hk6.mono fun k _ h => h.2)) (.inr fun k hk => by simp [Value.ownBlock] at hk; omega) HBC.out
 have HE6 := Lib.hid (HE3.out.trans' hE36)
 have HB6 := Lib.hid hbets
 have HN6 := Lib.hid hn6
 have HR6 := Lib.hid hrow
 have x0 := hrow.cell 0
 have x1 := hrow.cell 1
 have x2 := hrow.cell 2
 have x3 := hrow.cell 3
 have x4 := hrow.cell 4
 have x5 := hrow.cell 5
 have x6 := hrow.cell 6
 have x7 := hrow.cell 7
 have xz := hrow.lt
 simp only [List.getElem?_toArray, List.getElem?_cons_zero, List.getElem?_cons_succ] at x0 x1 x2 x3 x4 x5 x6 x7
 have z0 := (hzr).cell 0
 have z1 := (hzr).cell 1
 have z2 := (hzr).cell 2
 have z3 := (hzr).cell 3
 have z4 := (hzr).cell 4
 have z5 := (hzr).cell 5
 have z6 := (hzr).cell 6
 have z7 := (hzr).cell 7
 have zf := fun o => (hzr).fr o
 have zz := (hzr).lt
 simp only [zRow, List.getElem?_toArray, List.getElem?_cons_zero, List.getElem?_cons_succ] at z0 z1 z2 z3 z4 z5 z6 z7
 clear hk6 hn6 hrow hE36 hzr hbets hn5 y3 yz r43 r4f r4z
 go_wp2_with fail
 refine bodyPost_ret (v := .tuple #[bookV (scrP b r) (some ⟨W3.heap.size + 1, 0, none⟩) b.bets.length (some ⟨g, 0, none⟩) lc, .int .i64 0]) (by
  have hl : (sortL (b.scr ++ [r])).length = L.length := by rw [sortL_len, HLL.out]
  simp [results, Try.results19, go_sem, bookV, hl, z0, z1, z2, z3, z4, z5, z6, z7, scrP]) rfl ?_
 have hzw := HZ3.out.lt
 have hkF : ∀ (a b c d e f x y : Value), Kept (fun k => k ≠ w.heap.size + 1) w6 ((((((((w6.setCell ⟨w.heap.size + 1, 0, none⟩ a).setCell ⟨w.heap.size + 1, 1, none⟩ b).setCell ⟨w.heap.size + 1, 2, none⟩ c).setCell ⟨w.heap.size + 1, 3, none⟩ d).setCell ⟨w.heap.size + 1, 4, none⟩ e).setCell ⟨w.heap.size + 1, 5, none⟩ f).setCell ⟨w.heap.size + 1, 6, none⟩ x).setCell ⟨w.heap.size + 1, 7, none⟩ y) := fun a b c d e f x y =>
  ((((((((Kept.refl _ w6).setCell (fun _ h => h rfl) _).setCell (fun _ h => h rfl) _).setCell (fun _ h => h rfl) _).setCell (fun _ h => h rfl) _).setCell (fun _ h => h rfl) _).setCell (fun _ h => h rfl) _).setCell (fun _ h => h rfl) _).setCell (fun _ h => h rfl) _
 refine ⟨ext_set8 HE6.out (Nat.le_succ _) _ _ _ _ _ _ _ _, .inr ⟨e1.out, _, _, _, _, rfl, ?_, ?_⟩⟩
 ·exact IsRows.kept (hkF _ _ _ _ _ _ _ _) (.inr fun k hk => by simp [Value.ownBlock] at hk; omega) HB6.out
 ·have hs : (scrP b r).scr = sortL L := by rw [HLL.out]; rfl
  rw [hs, sortL_len]
  exact (HN6.out.of_heap ((hkF _ _ _ _ _ _ _ _).same _ HN6.out.lt (by omega))).intsC (sortL_len L).symm hg1 hg2
end Go.Proofs.Ytphajlldghcnnaa
namespace Go.Proofs.Ytphajlldghcnnaa
open Go.RowKit Go.Shelf
theorem twos_spec {w : World} {v : Value} {l : List Spt} (h : IsRows w 2 v (l.map twoRow)) :
  ∃ sa cap, v = .slice sa l.length cap ∧ l.length ≤ cap ∧ cap ≤ 9223372036854775807 ∧ (l = [] ∨ ∃ b off, sa = some ⟨b, off, none⟩ ∧ ∀ i, (h : i < l.length) →
   w.cell? ⟨b, off + i * 2, none⟩ = some (.int .i64 l[i].1) ∧ w.cell? ⟨b, off + i * 2 + 1, none⟩ = some (.int .i64 l[i].2)) := by
 obtain ⟨sa, cap, h1, h2, h3, h4⟩ := h
 refine ⟨sa, cap, by simpa using h1, by simpa using h2, h3, ?_⟩
 rcases h4 with h4 | ⟨b, off, e, h4⟩
 ·exact .inl (by simpa using h4)
 ·refine .inr ⟨b, off, e, fun i hi => ?_⟩
  have c0 := h4 i (by simpa using hi) 0 (by simp [twoRow])
  have c1 := h4 i (by simpa using hi) 1 (by simp [twoRow])
  simp [twoRow] at c0 c1
  exact ⟨c0, c1⟩
theorem ints_spec {w : World} {v : Value} {l : List Int} (h : IsInts w .i64 v l) :
  ∃ sa cap, v = .slice sa l.length cap ∧ l.length ≤ cap ∧ cap ≤ 9223372036854775807 ∧ (l = [] ∨ ∃ b off, sa = some ⟨b, off, none⟩ ∧ ∀ i, (h : i < l.length) → w.cell? ⟨b, off + i, none⟩ = some (.int .i64 l[i])) := h.spec
theorem take_eq_succ {α : Type} {s t : List α} {k : Nat} (h1 : k < s.length) (h2 : k < t.length) (h : s.take k = t.take k) (e : s[k] = t[k]) : s.take (k + 1) = t.take (k + 1) := by
 rw [List.take_succ_eq_append_getElem h1, List.take_succ_eq_append_getElem h2, h, e]
theorem bne3 {a b c a' b' c' : Int} (h : ¬ ((a = a' ∧ b = b') ∧ c = c')) : (!(a == a' && b == b' && c == c')) = true := by
 rw [Bool.not_eq_true', Bool.eq_false_iff]
 intro h2
 simp at h2
 exact h ⟨⟨h2.1.1, h2.1.2⟩, h2.2⟩
theorem bne2 {a b a' b' : Int} (h : ¬ (a = a' ∧ b = b')) : (!(a == a' && b == b')) = true := by
 rw [Bool.not_eq_true', Bool.eq_false_iff]
 intro h2
 simp at h2
 exact h h2
set_option maxRecDepth 100000 in
set_option maxHeartbeats 1000000 in
theorem dvdsL_any (s t : List Dvd) (sv tv : Value) (w : World) (hs : IsRows w 3 sv (s.map divRow)) (ht : IsRows w 3 tv (t.map divRow)) :
  Calls Try.prog 38 #[sv, tv] w fun e W => e = .returned (.bool (decide (s = t))) ∧ Ext w W := by
 obtain ⟨sa, cap, rfl, h1, h2, hsc⟩ := divs_spec hs
 obtain ⟨ta, tcap, rfl, h3, h4, htc⟩ := divs_spec ht
 have HSC := Lib.hid hsc
 have HTC := Lib.hid htc
 have hneq := fun a b c a' b' c' W => neq_dvd W a b c a' b' c'
 clear hs ht hsc htc
 go_enter Try.func38, Try.ntmps38
 by_cases hl : s.length = t.length
 rotate_left
 ·have hd : ((s.length : Int) != (t.length : Int)) = true := by rw [bne_iff_ne]; omega
  have HL := Lib.hid hl
  clear hl hneq
  go_wp2_with fail
  go_ret
  refine ⟨?_, Below.refl _ _⟩
  rw [decide_eq_false fun h => HL.out (by rw [h])]
  rfl
 have hd : ((s.length : Int) != (t.length : Int)) = false := by rw [bne_eq_false_iff_eq]; omega
 have HLL := Lib.hid hl
 clear hl
 go_wp2_with fail
 go_loopw [5] (fun i W => ∃ k : Nat, k ≤ s.length ∧ i = .int .i64 k ∧ s.take k = t.take k ∧ Ext w W) (fun i _ => s.length - (intOf i).toNat)
 case atStart => exact ⟨0, by omega, rfl, by simp, Below.refl _ _⟩
 case round =>
  obtain ⟨k, hk, rfl, hok, hE⟩ := hrel
  have HOK := Lib.hid hok
  have HE := Lib.hid hE
  by_cases hlt : k < s.length
  ·have hki : (k : Int) < (s.length : Int) := by omega
   have hkt : k < t.length := by rw [← HLL.out]; exact hlt
   have hkti : (k : Int) < (t.length : Int) := by omega
   rcases HSC.out with h | ⟨b, off, rfl, hc⟩
   ·rw [h] at hlt; simp at hlt
   rcases HTC.out with h | ⟨b2, off2, rfl, hc2⟩
   ·rw [h] at hkt; simp at hkt
   have d0 := cell_ext hE (hc k hlt).1
   have d1 := cell_ext hE (hc k hlt).2.1
   have d2 := cell_ext hE (hc k hlt).2.2
   have e0 := cell_ext hE (hc2 k hkt).1
   have e1 := cell_ext hE (hc2 k hkt).2.1
   have e2 := cell_ext hE (hc2 k hkt).2.2
   obtain ⟨x, hx⟩ : ∃ x, x = s[k] := ⟨_, rfl⟩
   obtain ⟨y, hy⟩ : ∃ y, y = t[k] := ⟨_, rfl⟩
   rw [← hx] at d0 d1 d2
   rw [← hy] at e0 e1 e2
   have HX := Lib.hid hx
   have HY := Lib.hid hy
   clear hE hc hc2 hx hy hok
   by_cases hxy : x = y
   ·have HXY := Lib.hid hxy
    subst hxy
    have hd : (!(x.1.1 == x.1.1 && x.1.2 == x.1.2 && x.2 == x.2)) = false := by simp
    go_upto_region 6 with (fail)
    go_quiet (fail)
    go_wp2_with fail
    go_roundw
    case rel => exact ⟨k + 1, by omega, by go_num, take_eq_succ hlt hkt HOK.out (by rw [← HX.out, ← HY.out]), HE.out.drN _⟩
    case measure => simp [intOf]; omega
   ·have hd : (!(x.1.1 == y.1.1 && x.1.2 == y.1.2 && x.2 == y.2)) = true := by exact bne3 fun h => hxy (Prod.ext (Prod.ext h.1.1 h.1.2) h.2)
    have HXY := Lib.hid hxy
    clear hxy
    go_upto_region 6 with (fail)
    go_quiet (fail)
    go_wp2_with fail
    go_ret
    refine ⟨?_, HE.out.drN _⟩
    rw [decide_eq_false fun h => HXY.out (by rw [HX.out, HY.out]; exact List.getElem_of_eq h _)]
    rfl
  ·have hkl : k = s.length := by omega
   have hki : ¬ ((k : Int) < (s.length : Int)) := by omega
   have hst : s = t := by
    have e1 : s.take k = s := by rw [hkl, List.take_length]
    have e2 : t.take k = t := by rw [hkl, HLL.out, List.take_length]
    rw [← e1, hok, e2]
   have HG := Lib.hid hst
   clear hok hE hkl hst hneq
   go_wp2_with fail
   go_ret
   refine ⟨?_, HE.out⟩
   rw [decide_eq_true HG.out]; rfl
set_option maxRecDepth 100000 in
set_option maxHeartbeats 1000000 in
theorem twosL_any (s t : List Spt) (sv tv : Value) (w : World) (hs : IsRows w 2 sv (s.map twoRow)) (ht : IsRows w 2 tv (t.map twoRow)) :
  Calls Try.prog 31 #[sv, tv] w fun e W => e = .returned (.bool (decide (s = t))) ∧ Ext w W := by
 obtain ⟨sa, cap, rfl, h1, h2, hsc⟩ := twos_spec hs
 obtain ⟨ta, tcap, rfl, h3, h4, htc⟩ := twos_spec ht
 have HSC := Lib.hid hsc
 have HTC := Lib.hid htc
 have hneq := fun a b a' b' W => neq_two W a b a' b'
 clear hs ht hsc htc
 go_enter Try.func31, Try.ntmps31
 by_cases hl : s.length = t.length
 rotate_left
 ·have hd : ((s.length : Int) != (t.length : Int)) = true := by rw [bne_iff_ne]; omega
  have HL := Lib.hid hl
  clear hl hneq
  go_wp2_with fail
  go_ret
  refine ⟨?_, Below.refl _ _⟩
  rw [decide_eq_false fun h => HL.out (by rw [h])]
  rfl
 have hd : ((s.length : Int) != (t.length : Int)) = false := by rw [bne_eq_false_iff_eq]; omega
 have HLL := Lib.hid hl
 clear hl
 go_wp2_with fail
 go_loopw [5] (fun i W => ∃ k : Nat, k ≤ s.length ∧ i = .int .i64 k ∧ s.take k = t.take k ∧ Ext w W) (fun i _ => s.length - (intOf i).toNat)
 case atStart => exact ⟨0, by omega, rfl, by simp, Below.refl _ _⟩
 case round =>
  obtain ⟨k, hk, rfl, hok, hE⟩ := hrel
  have HOK := Lib.hid hok
  have HE := Lib.hid hE
  by_cases hlt : k < s.length
  ·have hki : (k : Int) < (s.length : Int) := by omega
   have hkt : k < t.length := by rw [← HLL.out]; exact hlt
   have hkti : (k : Int) < (t.length : Int) := by omega
   rcases HSC.out with h | ⟨b, off, rfl, hc⟩
   ·rw [h] at hlt; simp at hlt
   rcases HTC.out with h | ⟨b2, off2, rfl, hc2⟩
   ·rw [h] at hkt; simp at hkt
   have d0 := cell_ext hE (hc k hlt).1
   have d1 := cell_ext hE (hc k hlt).2
   have e0 := cell_ext hE (hc2 k hkt).1
   have e1 := cell_ext hE (hc2 k hkt).2
   obtain ⟨x, hx⟩ : ∃ x, x = s[k] := ⟨_, rfl⟩
   obtain ⟨y, hy⟩ : ∃ y, y = t[k] := ⟨_, rfl⟩
   rw [← hx] at d0 d1
   rw [← hy] at e0 e1
   have HX := Lib.hid hx
   have HY := Lib.hid hy
   clear hE hc hc2 hx hy hok
   by_cases hxy : x = y
   ·have HXY := Lib.hid hxy
    subst hxy
    have hd : (!(x.1 == x.1 && x.2 == x.2)) = false := by simp
    go_upto_region 6 with (fail)
    go_quiet (fail)
    go_wp2_with fail
    go_roundw
    case rel => exact ⟨k + 1, by omega, by go_num, take_eq_succ hlt hkt HOK.out (by rw [← HX.out, ← HY.out]), HE.out.drN _⟩
    case measure => simp [intOf]; omega
   ·have hd : (!(x.1 == y.1 && x.2 == y.2)) = true := by exact bne2 fun h => hxy (Prod.ext h.1 h.2)
    have HXY := Lib.hid hxy
    clear hxy
    go_upto_region 6 with (fail)
    go_quiet (fail)
    go_wp2_with fail
    go_ret
    refine ⟨?_, HE.out.drN _⟩
    rw [decide_eq_false fun h => HXY.out (by rw [HX.out, HY.out]; exact List.getElem_of_eq h _)]
    rfl
  ·have hkl : k = s.length := by omega
   have hki : ¬ ((k : Int) < (s.length : Int)) := by omega
   have hst : s = t := by
    have e1 : s.take k = s := by rw [hkl, List.take_length]
    have e2 : t.take k = t := by rw [hkl, HLL.out, List.take_length]
    rw [← e1, hok, e2]
   have HG := Lib.hid hst
   clear hok hE hkl hst hneq
   go_wp2_with fail
   go_ret
   refine ⟨?_, HE.out⟩
   rw [decide_eq_true HG.out]; rfl
set_option maxRecDepth 100000 in
set_option maxHeartbeats 1000000 in
theorem intsL_any (s t : List Int) (sv tv : Value) (w : World) (hs : IsInts w .i64 sv s) (ht : IsInts w .i64 tv t) :
  Calls Try.prog 66 #[sv, tv] w fun e W => e = .returned (.bool (decide (s = t))) ∧ Ext w W := by
 obtain ⟨sa, cap, rfl, h1, h2, hsc⟩ := ints_spec hs
 obtain ⟨ta, tcap, rfl, h3, h4, htc⟩ := ints_spec ht
 have HSC := Lib.hid hsc
 have HTC := Lib.hid htc
 have hneq := True.intro
 clear hs ht hsc htc
 go_enter Try.func66, Try.ntmps66
 by_cases hl : s.length = t.length
 rotate_left
 ·have hd : ((s.length : Int) != (t.length : Int)) = true := by rw [bne_iff_ne]; omega
  have HL := Lib.hid hl
  clear hl hneq
  go_wp2_with fail
  go_ret
  refine ⟨?_, Below.refl _ _⟩
  rw [decide_eq_false fun h => HL.out (by rw [h])]
  rfl
 have hd : ((s.length : Int) != (t.length : Int)) = false := by rw [bne_eq_false_iff_eq]; omega
 have HLL := Lib.hid hl
 clear hl
 go_wp2_with fail
 go_loopw [5] (fun i W => ∃ k : Nat, k ≤ s.length ∧ i = .int .i64 k ∧ s.take k = t.take k ∧ Ext w W) (fun i _ => s.length - (intOf i).toNat)
 case atStart => exact ⟨0, by omega, rfl, by simp, Below.refl _ _⟩
 case round =>
  obtain ⟨k, hk, rfl, hok, hE⟩ := hrel
  have HOK := Lib.hid hok
  have HE := Lib.hid hE
  by_cases hlt : k < s.length
  ·have hki : (k : Int) < (s.length : Int) := by omega
   have hkt : k < t.length := by rw [← HLL.out]; exact hlt
   have hkti : (k : Int) < (t.length : Int) := by omega
   rcases HSC.out with h | ⟨b, off, rfl, hc⟩
   ·rw [h] at hlt; simp at hlt
   rcases HTC.out with h | ⟨b2, off2, rfl, hc2⟩
   ·rw [h] at hkt; simp at hkt
   have d0 := cell_ext hE (hc k hlt)
   have e0 := cell_ext hE (hc2 k hkt)
   obtain ⟨x, hx⟩ : ∃ x, x = s[k] := ⟨_, rfl⟩
   obtain ⟨y, hy⟩ : ∃ y, y = t[k] := ⟨_, rfl⟩
   rw [← hx] at d0
   rw [← hy] at e0
   have HX := Lib.hid hx
   have HY := Lib.hid hy
   clear hE hc hc2 hx hy hok
   by_cases hxy : x = y
   ·have HXY := Lib.hid hxy
    subst hxy
    have hd : (x != x) = false := by simp
    go_upto_region 6 with (fail)
    go_quiet (fail)
    go_wp2_with fail
    go_roundw
    case rel => exact ⟨k + 1, by omega, by go_num, take_eq_succ hlt hkt HOK.out (by rw [← HX.out, ← HY.out]), HE.out.drN _⟩
    case measure => simp [intOf]; omega
   ·have hd : (x != y) = true := by simpa using hxy
    have HXY := Lib.hid hxy
    clear hxy
    go_upto_region 6 with (fail)
    go_quiet (fail)
    go_wp2_with fail
    go_ret
    refine ⟨?_, HE.out.drN _⟩
    rw [decide_eq_false fun h => HXY.out (by rw [HX.out, HY.out]; exact List.getElem_of_eq h _)]
    rfl
  ·have hkl : k = s.length := by omega
   have hki : ¬ ((k : Int) < (s.length : Int)) := by omega
   have hst : s = t := by
    have e1 : s.take k = s := by rw [hkl, List.take_length]
    have e2 : t.take k = t := by rw [hkl, HLL.out, List.take_length]
    rw [← e1, hok, e2]
   have HG := Lib.hid hst
   clear hok hE hkl hst hneq
   go_wp2_with fail
   go_ret
   refine ⟨?_, HE.out⟩
   rw [decide_eq_true HG.out]; rfl
set_option maxRecDepth 100000 in
theorem betL_any (f s u : Int) (w : World) : Calls Try.prog 79 #[.int .i64 f, .int .i64 s, .int .i64 u] w fun e W => e = .returned (.agg #[.int .i64 f, .int .i64 s, .int .i64 u]) ∧ Ext w W := by
 go_enter Try.func79, Try.ntmps79
 go_wp2_with fail
 refine bodyPost_ret (v := .agg #[.int .i64 f, .int .i64 s, .int .i64 u]) (by simp [results, Try.results79, go_sem]) rfl ⟨rfl, by exact xx⟩
set_option maxRecDepth 100000 in
theorem divL_any (f s u : Int) (w : World) : Calls Try.prog 54 #[.int .i64 f, .int .i64 s, .int .i64 u] w fun e W => e = .returned (.agg #[.int .i64 f, .int .i64 s, .int .i64 u]) ∧ Ext w W := by
 go_enter Try.func54, Try.ntmps54
 go_wp2_with fail
 refine bodyPost_ret (v := .agg #[.int .i64 f, .int .i64 s, .int .i64 u]) (by simp [results, Try.results54, go_sem]) rfl ⟨rfl, by exact xx⟩
set_option maxRecDepth 100000 in
theorem inL_any (a : Option Addr) (n c : Nat) (w : World) : Calls Try.prog 53 #[.slice a n c] w fun e W => e = .returned (.slice a n c) ∧ Ext w W := by
 go_enter Try.func53, Try.ntmps53
 go_wp2_with fail
 go_ret
 exact ⟨rfl, Below.refl _ _⟩
def bookB (kd : Int) : Bk := ⟨kd, 3, [⟨0, -1, 5⟩, ⟨1, -1, 3⟩, ⟨2, -1, 2⟩], [], false, 0, 100, 10⟩
def pairsB : Bk := ⟨2, 3, [⟨0, 1, 2⟩, ⟨1, 0, 3⟩], [], false, 50, 0, 10⟩
set_option maxRecDepth 100000 in
set_option maxHeartbeats 2000000 in
theorem bookL_any (kd : Int)(w : World) : Calls Try.prog 51 #[.int .i64 kd] w fun e W => ∃ g, e = .returned (.agg #[.int .i64 kd, .int .i64 3, .slice (some ⟨g, 0, none⟩) 3 3, .slice none 0 0, .bool false, .int .i64 0, .int .i64 100, .int .i64 10]) ∧ Ext w W ∧ IsBook W (bookB kd) (some ⟨g, 0, none⟩) 3 none 0 := by
 go_enter Try.func51, Try.ntmps51
 go_upto_region 1 with (fail)
 obtain ⟨W0, hW0⟩ : ∃ W0, W0 = w.alloc (.cells #[.int .i64 0, .int .i64 0, .slice none 0 0, .slice none 0 0, .bool false, .int .i64 0, .int .i64 0, .int .i64 0] 25) := ⟨_, rfl⟩
 rw [← hW0]
 have hE0 : Ext w W0 := by rw [hW0]; exact xx
 have hr0 : RowB W0 w.heap.size zRow := by rw [hW0]; exact World.alloc_heap_new w _
 clear hW0
 go_wp2_with fail
 refine (betL_any 0 (-1) 5 _).mono ?_
 rintro e W2 ⟨rfl, hE2⟩
 go_wp2_with fail
 refine (betL_any 1 (-1) 3 _).mono ?_
 rintro e W3 ⟨rfl, hE3⟩
 go_wp2_with fail
 refine (betL_any 2 (-1) 2 _).mono ?_
 rintro e W1 ⟨rfl, hE1⟩
 have hE : Ext w W1 := ((hE0.trans' hE2).trans' hE3).trans' hE1
 have hr := hr0.ext ((hE2.trans' hE3).trans' hE1)
 have c0 : W1.cell? ⟨w.heap.size, 0, none⟩ = some (.int .i64 0) := hr.cell 0
 have c1 : W1.cell? ⟨w.heap.size, 1, none⟩ = some (.int .i64 0) := hr.cell 1
 have c2 : W1.cell? ⟨w.heap.size, 2, none⟩ = some (.slice none 0 0) := hr.cell 2
 have c3 : W1.cell? ⟨w.heap.size, 3, none⟩ = some (.slice none 0 0) := hr.cell 3
 have c4 : W1.cell? ⟨w.heap.size, 4, none⟩ = some (.bool false) := hr.cell 4
 have c5 : W1.cell? ⟨w.heap.size, 5, none⟩ = some (.int .i64 0) := hr.cell 5
 have c6 : W1.cell? ⟨w.heap.size, 6, none⟩ = some (.int .i64 0) := hr.cell 6
 have c7 : W1.cell? ⟨w.heap.size, 7, none⟩ = some (.int .i64 0) := hr.cell 7
 have cf := fun o => hr.fr o
 have hz := hr.lt
 have HE := Lib.hid hE
 have HR := Lib.hid hr
 clear hE hr hr0 hE0
 go_wp2_with fail
 have hEY := ext_set8 HE.out (Nat.le_refl w.heap.size) (.int .i64 kd) (.int .i64 3) (.slice (some ⟨W1.heap.size, 0, none⟩) 3 3) (.slice none 0 0) (.bool false) (.int .i64 0) (.int .i64 100) (.int .i64 10)
 refine bodyPost_ret (v := .agg #[.int .i64 kd, .int .i64 3, .slice (some ⟨W1.heap.size, 0, none⟩) 3 3, .slice none 0 0, .bool false, .int .i64 0, .int .i64 100, .int .i64 10]) (by simp [results, Try.results51, go_sem, c0, c1, c2, c3, c4, c5, c6, c7, hz]) rfl ?_
 refine ⟨_, rfl, hEY.alloc hEY.size _, ?_, ⟨none, 0, rfl, by simp [bookB], by omega, .inl rfl⟩⟩
 exact ⟨_, 3, rfl, by simp [bookB], by omega, .inr ⟨_, 0, rfl, newRows _ _ _ _ _ 3 (by simp [World.setCell]) (by simp [bookB, betRow]) (by simp [bookB, betRow])⟩⟩
set_option maxRecDepth 100000 in
set_option maxHeartbeats 2000000 in
theorem pairsL_any (w : World) : Calls Try.prog 52 #[] w fun e W => ∃ g, e = .returned (.agg #[.int .i64 2, .int .i64 3, .slice (some ⟨g, 0, none⟩) 2 2, .slice none 0 0, .bool false, .int .i64 50, .int .i64 0, .int .i64 10]) ∧ Ext w W ∧ IsBook W pairsB (some ⟨g, 0, none⟩) 2 none 0 := by
 go_enter Try.func52, Try.ntmps52
 go_upto_region 1 with (fail)
 obtain ⟨W0, hW0⟩ : ∃ W0, W0 = w.alloc (.cells #[.int .i64 0, .int .i64 0, .slice none 0 0, .slice none 0 0, .bool false, .int .i64 0, .int .i64 0, .int .i64 0] 25) := ⟨_, rfl⟩
 rw [← hW0]
 have hE0 : Ext w W0 := by rw [hW0]; exact xx
 have hr0 : RowB W0 w.heap.size zRow := by rw [hW0]; exact World.alloc_heap_new w _
 clear hW0
 go_wp2_with fail
 refine (betL_any 0 1 2 _).mono ?_
 rintro e W2 ⟨rfl, hE2⟩
 go_wp2_with fail
 refine (betL_any 1 0 3 _).mono ?_
 rintro e W1 ⟨rfl, hE1⟩
 have hE : Ext w W1 := (hE0.trans' hE2).trans' hE1
 have hr := hr0.ext (hE2.trans' hE1)
 have c0 : W1.cell? ⟨w.heap.size, 0, none⟩ = some (.int .i64 0) := hr.cell 0
 have c1 : W1.cell? ⟨w.heap.size, 1, none⟩ = some (.int .i64 0) := hr.cell 1
 have c2 : W1.cell? ⟨w.heap.size, 2, none⟩ = some (.slice none 0 0) := hr.cell 2
 have c3 : W1.cell? ⟨w.heap.size, 3, none⟩ = some (.slice none 0 0) := hr.cell 3
 have c4 : W1.cell? ⟨w.heap.size, 4, none⟩ = some (.bool false) := hr.cell 4
 have c5 : W1.cell? ⟨w.heap.size, 5, none⟩ = some (.int .i64 0) := hr.cell 5
 have c6 : W1.cell? ⟨w.heap.size, 6, none⟩ = some (.int .i64 0) := hr.cell 6
 have c7 : W1.cell? ⟨w.heap.size, 7, none⟩ = some (.int .i64 0) := hr.cell 7
 have cf := fun o => hr.fr o
 have hz := hr.lt
 have HE := Lib.hid hE
 have HR := Lib.hid hr
 clear hE hr hr0 hE0
 go_wp2_with fail
 have hEY := ext_set8 HE.out (Nat.le_refl w.heap.size) (.int .i64 2) (.int .i64 3) (.slice (some ⟨W1.heap.size, 0, none⟩) 2 2) (.slice none 0 0) (.bool false) (.int .i64 50) (.int .i64 0) (.int .i64 10)
 refine bodyPost_ret (v := .agg #[.int .i64 2, .int .i64 3, .slice (some ⟨W1.heap.size, 0, none⟩) 2 2, .slice none 0 0, .bool false, .int .i64 50, .int .i64 0, .int .i64 10]) (by simp [results, Try.results52, go_sem, c0, c1, c2, c3, c4, c5, c6, c7, hz]) rfl ?_
 refine ⟨_, rfl, hEY.alloc hEY.size _, ?_, ⟨none, 0, rfl, by simp [pairsB], by omega, .inl rfl⟩⟩
 exact ⟨_, 2, rfl, by simp [pairsB], by omega, .inr ⟨_, 0, rfl, newRows _ _ _ _ _ 3 (by simp [World.setCell]) (by simp [pairsB, betRow]) (by simp [pairsB, betRow])⟩⟩
end Go.Proofs.Ytphajlldghcnnaa
namespace Go.Proofs.Ytphajlldghcnnaa
def insI (x : Int) : List Int → List Int
 | [] => [x]
 | y :: l => if x ≤ y then x :: y :: l else y :: insI x l
def insS : List Int → List Int
 | [] => []
 | x :: l => insI x (insS l)
theorem insI_perm (x : Int) : ∀ l, (insI x l).Perm (x :: l)
 | [] => List.Perm.refl _
 | y :: l => by
  unfold insI
  split
  ·exact List.Perm.refl _
  ·exact ((insI_perm x l).cons y).trans (List.Perm.swap x y l)
theorem insS_perm : ∀ l, (insS l).Perm l
 | [] => List.Perm.refl _
 | x :: l => (insI_perm x _).trans ((insS_perm l).cons x)
theorem insI_sorted (x : Int) : ∀ l : List Int, l.Pairwise (fun a b => decide (a ≤ b) = true) → (insI x l).Pairwise (fun a b => decide (a ≤ b) = true)
 | [], _ => by simp [insI]
 | y :: l, h => by
  unfold insI
  rw [List.pairwise_cons] at h
  split
  ·rename_i hx
   rw [List.pairwise_cons, List.pairwise_cons]
   refine ⟨fun z hz => ?_, h⟩
   rcases List.mem_cons.1 hz with rfl | hz
   ·simpa using hx
   ·have := h.1 z hz; simp at this ⊢; omega
  ·rename_i hx
   rw [List.pairwise_cons]
   refine ⟨fun z hz => ?_, insI_sorted x l h.2⟩
   rcases List.mem_cons.1 ((insI_perm x l).subset hz) with rfl | hz
   ·simp; omega
   ·exact h.1 z hz
theorem insS_sorted : ∀ l : List Int, (insS l).Pairwise (fun a b => decide (a ≤ b) = true)
 | [] => List.Pairwise.nil
 | x :: l => insI_sorted x _ (insS_sorted l)
theorem sortL_sorted (l : List Int) : (sortL l).Pairwise (fun a b => decide (a ≤ b) = true) :=
 List.pairwise_mergeSort (fun a b c h1 h2 => by simp at h1 h2 ⊢; omega) (fun a b => by simp; omega) l
theorem sortL_perm (l : List Int) : (sortL l).Perm l := List.mergeSort_perm _ _
theorem sortL_ins : sortL = insS := funext fun l =>
 List.Perm.eq_of_pairwise (fun a b _ _ h1 h2 => by simp at h1 h2; omega) (sortL_sorted l) (insS_sorted l) ((sortL_perm l).trans (insS_perm l).symm)
theorem firsts_ins (fs : List (List Int)) (n : Nat) : firstsP fs n = insS (fs.take n).flatten := by unfold firstsP; rw [sortL_ins]
theorem wins_ins (b : Bk) (fs : List (List Int)) : winsP b fs = (insS (fs.take (grp b fs)).flatten).flatMap (winsAt b fs (insS (fs.take (grp b fs)).flatten)) := by unfold winsP; rw [firsts_ins]
theorem backed_ins (b : Bk) (fs : List (List Int)) : backedL b fs = ((insS (fs.take (grp b fs)).flatten).flatMap (winsAt b fs (insS (fs.take (grp b fs)).flatten))).filter fun s => decide (unitsP b s ≠ 0) := by unfold backedL; rw [wins_ins]
def scrB : Bk := ⟨0, 3, [⟨0, -1, 5⟩, ⟨1, -1, 3⟩, ⟨2, -1, 2⟩], [2], false, 0, 100, 10⟩
def favB : Bk := ⟨0, 3, [⟨0, -1, 5⟩, ⟨1, -1, 3⟩, ⟨2, -1, 2⟩], [2], true, 0, 100, 10⟩
theorem wv1 : divErr (bookB 0) [[0, 1], [2]] = 0 ∧ divL (bookB 0) [[0, 1], [2]] = [((0, -1), 90), ((1, -1), 150)] := by simp only [divErr, divL, divP, penceP, shareP, backed_ins]; decide +kernel
theorem wv2 : divErr (bookB 1) [[1], [0, 2]] = 0 ∧ divL (bookB 1) [[1], [0, 2]] = [((0, -1), 60), ((1, -1), 100), ((2, -1), 150)] := by simp only [divErr, divL, divP, penceP, shareP, backed_ins]; decide +kernel
theorem wv3 : finErr (bookB 0) [[0, 2], [1]] = 0 ∧ accA (bookB 0) [[0, 2], [1]] = ⟨1000, 0, 100, 890, 10, 0⟩ := by simp only [accA, paidP, divP, penceP, shareP, backed_ins]; decide +kernel
theorem wv4 : scrErr (bookB 0) 2 = 0 := by decide +kernel
theorem wv4s : scrP (bookB 0) 2 = scrB := by
 have h : (scrP (bookB 0) 2).scr = [2] := by decide +kernel
 unfold scrB
 rw [← h]
 rfl
theorem wv5 : finErr favB [[0], [1]] = 0 ∧ accA favB [[0], [1]] = ⟨1000, 0, 100, 840, 60, 0⟩ := by simp only [accA, paidP, divP, penceP, shareP, backed_ins]; decide +kernel
theorem wv6 : finErr pairsB [[2], [0], [1]] = 0 ∧ winL pairsB [[2], [0], [1]] = [(2, 0)] := by simp only [winL, wins_ins]; decide +kernel
theorem wv7 : divErr pairsB [[2], [0], [1]] = 19 := by simp only [divErr, divP, penceP, shareP, backed_ins]; decide +kernel
theorem wv8 : finErr pairsB [[0, 1], [2]] = 0 ∧ accA pairsB [[0, 1], [2]] = ⟨550, 0, 0, 530, 20, 0⟩ := by simp only [accA, paidP, divP, penceP, shareP, backed_ins]; decide +kernel
theorem wv9 : payErr (bookB 0) [[0, 1], [2]] 0 = 0 ∧ payP (bookB 0) [[0, 1], [2]] (betAt (bookB 0) 0) = 450 := by simp only [payErr, payP, divP, penceP, shareP, backed_ins]; decide +kernel
theorem wv10 : favA (bookB 0) = 0 ∧ bkErr (bookB 0) = 0 := by decide +kernel
theorem wv11 : sprLo (bookB 0) = 890 ∧ sprHi (bookB 0) = 900 := by simp only [sprLo, sprHi, sprL, accA, paidP, divP, penceP, shareP, backed_ins]; decide +kernel
theorem wv12 : finErr (bookB 0) [[0], [2]] = 22 := by decide +kernel
end Go.Proofs.Ytphajlldghcnnaa
namespace Go.Proofs.Ytphajlldghcnnaa
open Go.RowKit Go.Shelf
def PL (l : List Int) (v : Value) (W : World) : Prop := ∃ b, v = .slice (some ⟨b, 0, none⟩) l.length l.length ∧ IsInts W .i64 v l
def PF (fs : List (List Int)) (v : Value) (W : World) : Prop := ∃ a n c ps, v = .slice a n c ∧ finsOf ps = fs ∧ IsFin W v ps
def PT (sz : Nat) (er : Int) (rows : List (List Value)) (v : Value) (W : World) : Prop := ∃ u, v = .tuple #[u, .int .i64 er] ∧ IsRows W sz u rows
def PA (B : Nat) (v : Value) (W : World) : Prop := ∃ q, v = .pointer (some ⟨q, 0, none⟩) ∧ B ≤ q ∧ AccAt W q ⟨0, 0, 0, 0, 0, 0⟩
theorem PL.ext {l : List Int} {v : Value} {w w' : World} (e : Ext w w') (h : PL l v w) : PL l v w' := by
 obtain ⟨b, h1, h2⟩ := h
 exact ⟨b, h1, h2.ext e⟩
theorem PF.ext {fs : List (List Int)} {v : Value} {w w' : World} (e : Ext w w') (h : PF fs v w) : PF fs v w' := by
 obtain ⟨a, n, c, ps, h1, h2, h3⟩ := h
 exact ⟨a, n, c, ps, h1, h2, h3.ext e⟩
theorem PT.ext {sz : Nat} {er : Int} {rows : List (List Value)} {v : Value} {w w' : World} (e : Ext w w') (h : PT sz er rows v w) : PT sz er rows v w' := by
 obtain ⟨u, h1, h2⟩ := h
 exact ⟨u, h1, IsRows.ext e h2⟩
theorem PA.ext {B : Nat} {v : Value} {w w' : World} (e : Ext w w') (h : PA B v w) : PA B v w' := by
 obtain ⟨q, h1, h2, h3⟩ := h
 exact ⟨q, h1, h2, h3.ext e⟩
theorem pl_new (W : World) (l : List Int) (arr : Array Value) (T : TypeId) (b : Nat) (hb : b = W.heap.size) (ha : arr.toList = l.map (.int .i64)) (hl : l.length ≤ 1000000) : IsInts (W.alloc (.cells arr T)) .i64 (.slice (some ⟨b, 0, none⟩) l.length l.length) l := by
 subst hb
 refine IsInts.mk (Nat.le_refl _) ?_ fun i hi => ?_
 ·omega
 ·rw [Nat.zero_add, cell_of_row _ _ _ _ _ _ (World.alloc_heap_new W _), ← Array.getElem?_toList, ha, List.getElem?_map, List.getElem?_eq_getElem hi]
  rfl
theorem fin_new (W : World) (ps : List (Value × List Int)) (arr : Array Value) (T : TypeId) (b : Nat) (hb : b = W.heap.size) (ha : arr.toList = ps.map (·.1)) (h : ∀ x ∈ ps, IsInts W .i64 x.1 x.2) (hl : ps.length ≤ 1000000) : IsFin (W.alloc (.cells arr T)) (.slice (some ⟨b, 0, none⟩) ps.length ps.length) ps := by
 subst hb
 refine ⟨⟨_, ps.length, by simp, by simp, by omega, .inr ⟨_, 0, rfl, newRows W _ _ _ _ 1 rfl one_rows ?_⟩⟩, fun x hx => (h x hx).ext xx⟩
 rw [ha]
 clear ha h hl
 induction ps with
 | nil => rfl
 | cons x l ih => simp [ih]
theorem acc_set6 {W : World} {q : Nat} {A : Acc} (h : AccAt W q A) (a b c d e f : Int) : AccAt ((((((W.setCell ⟨q, 0, none⟩ (.int .i64 a)).setCell ⟨q, 1, none⟩ (.int .i64 b)).setCell ⟨q, 2, none⟩ (.int .i64 c)).setCell ⟨q, 3, none⟩ (.int .i64 d)).setCell ⟨q, 4, none⟩ (.int .i64 e)).setCell ⟨q, 5, none⟩ (.int .i64 f)) q ⟨a, b, c, d, e, f⟩ :=
 heap_setCell_row (heap_setCell_row (heap_setCell_row (heap_setCell_row (heap_setCell_row (heap_setCell_row h 0 (.int .i64 a)) 1 (.int .i64 b)) 2 (.int .i64 c)) 3 (.int .i64 d)) 4 (.int .i64 e)) 5 (.int .i64 f)
def RngAt (W : World) (g : Nat) (a b : Int) : Prop := W.heap[g]? = some (.cells #[.int .i64 a, .int .i64 b] 56 (0, 0))
theorem RngAt.c0 {W : World} {g : Nat} {a b : Int} (h : RngAt W g a b) : W.cell? ⟨g, 0, none⟩ = some (.int .i64 a) := by rw [cell_of_row _ _ _ _ _ _ h]; rfl
theorem RngAt.c1 {W : World} {g : Nat} {a b : Int} (h : RngAt W g a b) : W.cell? ⟨g, 1, none⟩ = some (.int .i64 b) := by rw [cell_of_row _ _ _ _ _ _ h]; rfl
theorem RngAt.lt {W : World} {g : Nat} {a b : Int} (h : RngAt W g a b) : g < W.heap.size := (Array.getElem?_eq_some_iff.1 h).1
theorem RngAt.ext {W W' : World} {g : Nat} {a b : Int} (h : RngAt W g a b) (e : Ext W W') : RngAt W' g a b := (e.block _ h.lt).trans h
/-- rows that were laid just now, as a slice -/
theorem rows_new (W : World) (sz n : Nat) (rows : List (List Value)) (arr : Array Value) (T : TypeId) (b : Nat) (hb : b = W.heap.size) (hr : ∀ r ∈ rows, r.length = sz) (ha : arr.toList = rows.flatten) (hn : n = rows.length) (hl : n ≤ 1000000) : IsRows (W.alloc (.cells arr T)) sz (.slice (some ⟨b, 0, none⟩) n n) rows :=
 ⟨_, n, by rw [hn], by omega, by omega, .inr ⟨b, 0, rfl, newRows W rows arr T b sz hb hr ha⟩⟩
theorem acc_eql (p : Acc) (W : World) : (binOp .eql 48 (accV p) (accV p)).run Try.prog W = .ok (.bool true) W := by
 have := eql_acc W p p
 rw [decide_eq_true (rfl : p = p)] at this
 exact this
end Go.Proofs.Ytphajlldghcnnaa
namespace Go.Proofs.Ytphajlldghcnnaa
open Go.RowKit Go.Shelf
set_option maxRecDepth 200000 in
set_option maxHeartbeats 16000000 in
theorem worksL_any (w : World) : Calls Try.prog 18 #[] w fun e W => e = .returned (.bool true) ∧ Ext w W := by
 obtain ⟨B1, hB1⟩ : ∃ B1, B1 = bookB 0 := ⟨_, rfl⟩
 obtain ⟨B2, hB2⟩ : ∃ B2, B2 = bookB 1 := ⟨_, rfl⟩
 obtain ⟨B3, hB3⟩ : ∃ B3, B3 = pairsB := ⟨_, rfl⟩
 obtain ⟨B4, hB4⟩ : ∃ B4, B4 = favB := ⟨_, rfl⟩
 have V1a : Hid (divErr B1 [[0, 1], [2]] = 0) := Lib.hid (by rw [hB1]; exact wv1.1)
 have V1b : Hid (divL B1 [[0, 1], [2]] = [((0, -1), 90), ((1, -1), 150)]) := Lib.hid (by rw [hB1]; exact wv1.2)
 have V2a : Hid (divErr B2 [[1], [0, 2]] = 0) := Lib.hid (by rw [hB2]; exact wv2.1)
 have V2b : Hid (divL B2 [[1], [0, 2]] = [((0, -1), 60), ((1, -1), 100), ((2, -1), 150)]) := Lib.hid (by rw [hB2]; exact wv2.2)
 have V3 : Hid (accE B1 [[0, 2], [1]] = .tuple #[.agg #[.int .i64 1000, .int .i64 0, .int .i64 100, .int .i64 890, .int .i64 10, .int .i64 0], .int .i64 0]) := Lib.hid (by rw [hB1, accE_ok wv3.1, wv3.2]; rfl)
 have V4 : Hid (scrErr B1 2 = 0) := Lib.hid (by rw [hB1]; exact wv4)
 have V4s : Hid (scrP B1 2 = scrB) := Lib.hid (by rw [hB1]; exact wv4s)
 have V5 : Hid (accE B4 [[0], [1]] = .tuple #[.agg #[.int .i64 1000, .int .i64 0, .int .i64 100, .int .i64 840, .int .i64 60, .int .i64 0], .int .i64 0]) := Lib.hid (by rw [hB4, accE_ok wv5.1, wv5.2]; rfl)
 have V6a : Hid (finErr B3 [[2], [0], [1]] = 0) := Lib.hid (by rw [hB3]; exact wv6.1)
 have V6b : Hid (winL B3 [[2], [0], [1]] = [(2, 0)]) := Lib.hid (by rw [hB3]; exact wv6.2)
 have V7a : Hid (divErr B3 [[2], [0], [1]] = 19) := Lib.hid (by rw [hB3]; exact wv7)
 have V8 : Hid (accE B3 [[0, 1], [2]] = .tuple #[.agg #[.int .i64 550, .int .i64 0, .int .i64 0, .int .i64 530, .int .i64 20, .int .i64 0], .int .i64 0]) := Lib.hid (by rw [hB3, accE_ok wv8.1, wv8.2]; rfl)
 have V9 : Hid (payE B1 [[0, 1], [2]] 0 = .tuple #[.int .i64 450, .int .i64 0]) := Lib.hid (by rw [hB1]; unfold payE; rw [wv9.1, if_pos rfl, wv9.2])
 have V10 : Hid (favA B1 = 0) := Lib.hid (by rw [hB1]; exact wv10.1)
 have V10b : Hid (bkErr B1 = 0) := Lib.hid (by rw [hB1]; exact wv10.2)
 have V11a : Hid (sprLo B1 = 890) := Lib.hid (by rw [hB1]; exact wv11.1)
 have V11b : Hid (sprHi B1 = 900) := Lib.hid (by rw [hB1]; exact wv11.2)
 have V12 : Hid (finErr B1 [[0], [2]] = 22) := Lib.hid (by rw [hB1]; exact wv12)
 have VB1 := Lib.hid hB1
 have VB2 := Lib.hid hB2
 have VB3 := Lib.hid hB3
 have VB4 := Lib.hid hB4
 clear hB1 hB2 hB3 hB4
 go_enter Try.func18, Try.ntmps18
 go_wp2_with fail
 refine (bookL_any 0 _).mono ?_
 rintro e U1 ⟨g1, rfl, hE1, hI1⟩
 go_wp2_with fail
 refine (bookL_any 1 _).mono ?_
 rintro e U2 ⟨g2, rfl, hE2, hI2⟩
 go_wp2_with fail
 refine (pairsL_any _).mono ?_
 rintro e U3 ⟨g3, rfl, hE3, hI3⟩
 go_upto_region 2 with (fail)
 obtain ⟨Z0, hZ0⟩ : ∃ Z0, Z0 = ((U3.alloc (.cells #[.int .i64 0, .int .i64 3, .slice (some ⟨g1, 0, none⟩) 3 3, .slice none 0 0, .bool false, .int .i64 0, .int .i64 100, .int .i64 10] 25)).alloc (.cells #[.int .i64 1, .int .i64 3, .slice (some ⟨g2, 0, none⟩) 3 3, .slice none 0 0, .bool false, .int .i64 0, .int .i64 100, .int .i64 10] 25)).alloc (.cells #[.int .i64 2, .int .i64 3, .slice (some ⟨g3, 0, none⟩) 2 2, .slice none 0 0, .bool false, .int .i64 50, .int .i64 0, .int .i64 10] 25) := ⟨_, rfl⟩
 rw [← hZ0]
 obtain ⟨q1, hq1⟩ : ∃ q1, q1 = U3.heap.size := ⟨_, rfl⟩
 have hb1 : BookAt Z0 (q1) B1 (some ⟨g1, 0, none⟩) 3 none 0 := by rw [hZ0, VB1.out, hq1]; exact ⟨by simp [go_sem, bookB], by simp [go_sem, bookB], by simp [go_sem, bookB], by simp [go_sem, bookB], by simp [go_sem, bookB], by simp [go_sem, bookB], by simp [go_sem, bookB], by simp [go_sem, bookB]⟩
 have hb2 : BookAt Z0 (q1 + 1) B2 (some ⟨g2, 0, none⟩) 3 none 0 := by rw [hZ0, VB2.out, hq1]; exact ⟨by simp [go_sem, bookB], by simp [go_sem, bookB], by simp [go_sem, bookB], by simp [go_sem, bookB], by simp [go_sem, bookB], by simp [go_sem, bookB], by simp [go_sem, bookB], by simp [go_sem, bookB]⟩
 have hb3 : BookAt Z0 (q1 + 1 + 1) B3 (some ⟨g3, 0, none⟩) 2 none 0 := by rw [hZ0, VB3.out, hq1]; exact ⟨by simp [go_sem, pairsB], by simp [go_sem, pairsB], by simp [go_sem, pairsB], by simp [go_sem, pairsB], by simp [go_sem, pairsB], by simp [go_sem, pairsB], by simp [go_sem, pairsB], by simp [go_sem, pairsB]⟩
 have hE0 : Ext U3 Z0 := by rw [hZ0]; exact xx
 have HB1 := Lib.hid hb1
 have HB2 := Lib.hid hb2
 have HB3 := Lib.hid hb3
 have HI1 : Hid (IsBook Z0 B1 (some ⟨g1, 0, none⟩) 3 none 0) := Lib.hid (by rw [VB1.out]; exact ((hI1.ext hE2).ext hE3).ext hE0)
 have HI2 : Hid (IsBook Z0 B2 (some ⟨g2, 0, none⟩) 3 none 0) := Lib.hid (by rw [VB2.out]; exact (hI2.ext hE3).ext hE0)
 have HI3 : Hid (IsBook Z0 B3 (some ⟨g3, 0, none⟩) 2 none 0) := Lib.hid (by rw [VB3.out]; exact hI3.ext hE0)
 have HW := Lib.hid (((hE1.trans' hE2).trans' hE3).trans' hE0 : Ext w Z0)
 rw [← hq1]
 clear hZ0 hq1 hb1 hb2 hb3 hE0 hI1 hI2 hI3 hE1 hE2 hE3
 have hbkF := HB1.out
 have k0 := hbkF.c0
 have k1 := hbkF.c1
 have k2 := hbkF.c2
 have k3 := hbkF.c3
 have k4 := hbkF.c4
 have k5 := hbkF.c5
 have k6 := hbkF.c6
 have k7 := hbkF.c7
 have hzk := hbkF.lt
 clear hbkF
 refine wp_region_rove (Z0.heap.size) (Nat.le_refl _)
  [sqV (.agg #[.int .i64 B1.kd, .int .i64 B1.n, .slice (some ⟨g1, 0, none⟩) B1.bets.length 3, .slice none B1.scr.length 0, .bool B1.fav, .int .i64 B1.car, .int .i64 B1.duty, .int .i64 B1.step]), sqW (fun v W => PL [0, 1] v W) (fun _ _ _ h e => PL.ext e h), sqW (fun v W => PL [2] v W) (fun _ _ _ h e => PL.ext e h), sqW (fun v W => PF [[0, 1], [2]] v W) (fun _ _ _ h e => PF.ext e h), sqW (fun v W => PF [[0, 1], [2]] v W) (fun _ _ _ h e => PF.ext e h), sqW (fun v W => PT 3 0 ([((0, -1), 90), ((1, -1), 150)].map divRow) v W) (fun _ _ _ h e => PT.ext e h), sqW (fun v W => PT 3 0 ([((0, -1), 90), ((1, -1), 150)].map divRow) v W) (fun _ _ _ h e => PT.ext e h), sqW (fun v W => IsRows W 3 v ([((0, -1), 90), ((1, -1), 150)].map divRow)) (fun _ _ _ h e => IsRows.ext e h), sqV (.int .i64 0), sqW (fun v W => IsRows W 3 v ([((0, -1), 90), ((1, -1), 150)].map divRow)) (fun _ _ _ h e => IsRows.ext e h), sqV (.int .i64 0)]
  [true, false, false, false, false, false, false, false, true, false, true] [false, false, false, false, false, false, false, false, false, false, false] [true, true, true, true, true, true, true, true, true, true, true] [true, true, true, true, true, true, true, true, true, true, true]
  (by kernel_rfl) (by kernel_rfl) (by decide +kernel) (by decide +kernel) (by decide +kernel) rfl ⟨rfl, rfl⟩ ⟨?s0, ?s1, ?s2, ?s3, ?s4, ?s5, ?s6, ?s7, ?s8, ?s9, ?s10, trivial⟩ [some 31, some 32, some 33, some 34, some 35, some 36, some 30, some 37, some 38, some 4, some 5] rfl rfl ?send
 case s0 =>
  intro val ρ W hE hz hd hA hx
  have o0 : ρ (.tmp 1) = .pointer (some ⟨q1, 0, none⟩) := hA.old 1 (by decide)
  have f_k0 := cell_below hE (by simp only; omega) k0
  have f_k1 := cell_below hE (by simp only; omega) k1
  have f_k2 := cell_below hE (by simp only; omega) k2
  have f_k3 := cell_below hE (by simp only; omega) k3
  have f_k4 := cell_below hE (by simp only; omega) k4
  have f_k5 := cell_below hE (by simp only; omega) k5
  have f_k6 := cell_below hE (by simp only; omega) k6
  have f_k7 := cell_below hE (by simp only; omega) k7
  clear hd
  exact runq_val (W' := W) (by simp [execOp, o0, f_k0, f_k1, f_k2, f_k3, f_k4, f_k5, f_k6, f_k7, go_sem]) (Below.refl _ _) rfl
 case s10 =>
  intro val ρ W hE hz hd hA hx
  have d8 : ρ (.tmp 38) = .int .i64 0 := (hA.dep 8 (by decide) 38 rfl).trans (hd 8 (by decide))
  clear hd
  exact runq_val (W' := W) (by simp [execOp, d8, go_sem]) (Below.refl _ _) rfl
 case s1 =>
  intro val ρ W hE hz hd hA hx
  clear hd
  exact runq_val (by simp [execOp, hA.const, go_sem]; exact ⟨rfl, rfl⟩) (by exact xx) ⟨_, rfl, pl_new _ [0, 1] _ _ _ rfl rfl (by decide)⟩
 case s2 =>
  intro val ρ W hE hz hd hA hx
  clear hd
  exact runq_val (by simp [execOp, hA.const, go_sem]; exact ⟨rfl, rfl⟩) (by exact xx) ⟨_, rfl, pl_new _ [2] _ _ _ rfl rfl (by decide)⟩
 case s3 =>
  intro val ρ W hE hz hd hA hx
  obtain ⟨b0, e0, i0⟩ : PL [0, 1] (val 1) W := hd 1 (by decide)
  have d0 : ρ (.tmp 32) = .slice (some ⟨b0, 0, none⟩) 2 2 := (hA.dep 1 (by decide) 32 rfl).trans e0
  rw [e0] at i0
  obtain ⟨b1, e1, i1⟩ : PL [2] (val 2) W := hd 2 (by decide)
  have d1 : ρ (.tmp 33) = .slice (some ⟨b1, 0, none⟩) 1 1 := (hA.dep 2 (by decide) 33 rfl).trans e1
  rw [e1] at i1
  clear hd
  refine runq_val (by simp [execOp, d0, d1, go_sem]; exact ⟨rfl, rfl⟩) (by exact xx) ⟨_, _, _, [(.slice (some ⟨b0, 0, none⟩) 2 2, [0, 1]), (.slice (some ⟨b1, 0, none⟩) 1 1, [2])], rfl, rfl, fin_new _ _ _ _ _ rfl rfl ?_ (by simp)⟩
  intro x hx
  simp only [List.mem_cons, List.not_mem_nil, or_false] at hx
  rcases hx with rfl | rfl
  ·exact i0
  ·exact i1
 case s4 =>
  intro val ρ W hE hz hd hA hx
  obtain ⟨a, n, c, ps, h1, h2, h3⟩ : PF [[0, 1], [2]] (val 3) W := hd 3 (by decide)
  rw [h1] at h3
  have d1 : ρ (.tmp 34) = .slice a n c := (hA.dep 3 (by decide) 34 rfl).trans h1
  clear hd
  refine runq_call 53 _ _ rfl #[.slice a n c] (hA.func _) (by simp [d1]) (fun args W => Try.call53 args W) ((inL_any a n c W).mono ?_)
  rintro e w' ⟨rfl, hb⟩
  exact ⟨_, rfl, hb, a, n, c, ps, rfl, h2, h3.ext hb⟩
 case s5 =>
  intro val ρ W hE hz hd hA hx
  obtain ⟨a, n, c, ps, h1, h2, h3⟩ : PF [[0, 1], [2]] (val 4) W := hd 4 (by decide)
  rw [h1] at h3
  have d1 : ρ (.tmp 35) = .slice a n c := (hA.dep 4 (by decide) 35 rfl).trans h1
  have d0 : ρ (.tmp 31) = .agg #[.int .i64 B1.kd, .int .i64 B1.n, .slice (some ⟨g1, 0, none⟩) B1.bets.length 3, .slice none B1.scr.length 0, .bool B1.fav, .int .i64 B1.car, .int .i64 B1.duty, .int .i64 B1.step] := (hA.dep 0 (by decide) 31 rfl).trans (hd 0 (by decide))
  clear hd
  refine runq_call 32 _ _ rfl #[.agg #[.int .i64 B1.kd, .int .i64 B1.n, .slice (some ⟨g1, 0, none⟩) B1.bets.length 3, .slice none B1.scr.length 0, .bool B1.fav, .int .i64 B1.car, .int .i64 B1.duty, .int .i64 B1.step], .slice a n c] (hA.func _) (by simp [d0, d1]) (fun args W => Try.call32 args W) ((dividendsP_any ps _ B1 (some ⟨g1, 0, none⟩) none 3 0 W (HI1.out.ext hE) h3).mono ?_)
  rintro e w' ⟨hb, u, rfl, hr⟩
  rw [h2, V1b.out] at hr
  exact ⟨_, rfl, hb, u, by rw [h2, V1a.out], hr⟩
 case s6 =>
  intro val ρ W hE hz hd hA hx
  have h : PT 3 0 ([((0, -1), 90), ((1, -1), 150)].map divRow) (val 5) W := hd 5 (by decide)
  have d1 : ρ (.tmp 36) = val 5 := hA.dep 5 (by decide) 36 rfl
  clear hd
  exact runq_val (W' := W) (by simp [execOp, d1, go_sem]) (Below.refl _ _) h
 case s7 =>
  intro val ρ W hE hz hd hA hx
  obtain ⟨u, h1, h2⟩ : PT 3 0 ([((0, -1), 90), ((1, -1), 150)].map divRow) (val 6) W := hd 6 (by decide)
  have d1 : ρ (.tmp 30) = .tuple #[u, .int .i64 0] := (hA.dep 6 (by decide) 30 rfl).trans h1
  clear hd
  exact runq_val (W' := W) (by simp [execOp, d1, go_sem]) (Below.refl _ _) h2
 case s8 =>
  intro val ρ W hE hz hd hA hx
  obtain ⟨u, h1, h2⟩ : PT 3 0 ([((0, -1), 90), ((1, -1), 150)].map divRow) (val 6) W := hd 6 (by decide)
  have d1 : ρ (.tmp 30) = .tuple #[u, .int .i64 0] := (hA.dep 6 (by decide) 30 rfl).trans h1
  clear hd
  exact runq_val (W' := W) (by simp [execOp, d1, go_sem]) (Below.refl _ _) rfl
 case s9 =>
  intro val ρ W hE hz hd hA hx
  have h : IsRows W 3 (val 7) ([((0, -1), 90), ((1, -1), 150)].map divRow) := hd 7 (by decide)
  have d1 : ρ (.tmp 37) = val 7 := hA.dep 7 (by decide) 37 rfl
  clear hd
  exact runq_val (W' := W) (by simp [execOp, d1, go_sem]) (Below.refl _ _) h
 case send =>
  intro val Z1 hE hzz hv
  obtain ⟨r0, r1, r2, r3, r4, r5, r6, r7, r8, r9, r10, -⟩ := hv
  have r9' : IsRows Z1 3 (val 9) ([((0, -1), 90), ((1, -1), 150)].map divRow) := r9
  obtain ⟨uaa, uac, q9, -, -, -⟩ := divs_spec r9'
  rw [q9] at r9'
  have UA := Lib.hid r9'
  have q10 : val 10 = .int .i64 0 := r10
  replace HB1 := Lib.hid (HB1.out.ext hE)
  replace HB2 := Lib.hid (HB2.out.ext hE)
  replace HB3 := Lib.hid (HB3.out.ext hE)
  replace HI1 := Lib.hid (HI1.out.ext hE)
  replace HI2 := Lib.hid (HI2.out.ext hE)
  replace HI3 := Lib.hid (HI3.out.ext hE)
  replace HW := Lib.hid (HW.out.trans' hE)
  simp only [putD, q9, q10]
  go_frame
  clear hE hzz k0 k1 k2 k3 k4 k5 k6 k7 hzk r0 r1 r2 r3 r4 r5 r6 r7 r8 r9 r10 q9 q10 r9'
  go_upto_region 3 with (fail)
  have hbkF := HB2.out
  have k0 := hbkF.c0
  have k1 := hbkF.c1
  have k2 := hbkF.c2
  have k3 := hbkF.c3
  have k4 := hbkF.c4
  have k5 := hbkF.c5
  have k6 := hbkF.c6
  have k7 := hbkF.c7
  have hzk := hbkF.lt
  clear hbkF
  refine wp_region_rove (Z1.heap.size) (Nat.le_refl _)
   [sqV (.agg #[.int .i64 B2.kd, .int .i64 B2.n, .slice (some ⟨g2, 0, none⟩) B2.bets.length 3, .slice none B2.scr.length 0, .bool B2.fav, .int .i64 B2.car, .int .i64 B2.duty, .int .i64 B2.step]), sqW (fun v W => PL [1] v W) (fun _ _ _ h e => PL.ext e h), sqW (fun v W => PL [0, 2] v W) (fun _ _ _ h e => PL.ext e h), sqW (fun v W => PF [[1], [0, 2]] v W) (fun _ _ _ h e => PF.ext e h), sqW (fun v W => PF [[1], [0, 2]] v W) (fun _ _ _ h e => PF.ext e h), sqW (fun v W => PT 3 0 ([((0, -1), 60), ((1, -1), 100), ((2, -1), 150)].map divRow) v W) (fun _ _ _ h e => PT.ext e h), sqW (fun v W => PT 3 0 ([((0, -1), 60), ((1, -1), 100), ((2, -1), 150)].map divRow) v W) (fun _ _ _ h e => PT.ext e h), sqW (fun v W => IsRows W 3 v ([((0, -1), 60), ((1, -1), 100), ((2, -1), 150)].map divRow)) (fun _ _ _ h e => IsRows.ext e h), sqV (.int .i64 0), sqW (fun v W => IsRows W 3 v ([((0, -1), 60), ((1, -1), 100), ((2, -1), 150)].map divRow)) (fun _ _ _ h e => IsRows.ext e h), sqV (.int .i64 0)]
   [true, false, false, false, false, false, false, false, true, false, true] [false, false, false, false, false, false, false, false, false, false, false] [true, true, true, true, true, true, true, true, true, true, true] [true, true, true, true, true, true, true, true, true, true, true]
   (by kernel_rfl) (by kernel_rfl) (by decide +kernel) (by decide +kernel) (by decide +kernel) rfl ⟨rfl, rfl⟩ ⟨?s0, ?s1, ?s2, ?s3, ?s4, ?s5, ?s6, ?s7, ?s8, ?s9, ?s10, trivial⟩ [some 40, some 41, some 42, some 43, some 44, some 45, some 39, some 46, some 47, some 6, some 7] rfl rfl ?send
  case s0 =>
   intro val ρ W hE hz hd hA hx
   have o0 : ρ (.tmp 2) = .pointer (some ⟨q1 + 1, 0, none⟩) := hA.old 2 (by decide)
   have f_k0 := cell_below hE (by simp only; omega) k0
   have f_k1 := cell_below hE (by simp only; omega) k1
   have f_k2 := cell_below hE (by simp only; omega) k2
   have f_k3 := cell_below hE (by simp only; omega) k3
   have f_k4 := cell_below hE (by simp only; omega) k4
   have f_k5 := cell_below hE (by simp only; omega) k5
   have f_k6 := cell_below hE (by simp only; omega) k6
   have f_k7 := cell_below hE (by simp only; omega) k7
   clear hd
   exact runq_val (W' := W) (by simp [execOp, o0, f_k0, f_k1, f_k2, f_k3, f_k4, f_k5, f_k6, f_k7, go_sem]) (Below.refl _ _) rfl
  case s10 =>
   intro val ρ W hE hz hd hA hx
   have d8 : ρ (.tmp 47) = .int .i64 0 := (hA.dep 8 (by decide) 47 rfl).trans (hd 8 (by decide))
   clear hd
   exact runq_val (W' := W) (by simp [execOp, d8, go_sem]) (Below.refl _ _) rfl
  case s1 =>
   intro val ρ W hE hz hd hA hx
   clear hd
   exact runq_val (by simp [execOp, hA.const, go_sem]; exact ⟨rfl, rfl⟩) (by exact xx) ⟨_, rfl, pl_new _ [1] _ _ _ rfl rfl (by decide)⟩
  case s2 =>
   intro val ρ W hE hz hd hA hx
   clear hd
   exact runq_val (by simp [execOp, hA.const, go_sem]; exact ⟨rfl, rfl⟩) (by exact xx) ⟨_, rfl, pl_new _ [0, 2] _ _ _ rfl rfl (by decide)⟩
  case s3 =>
   intro val ρ W hE hz hd hA hx
   obtain ⟨b0, e0, i0⟩ : PL [1] (val 1) W := hd 1 (by decide)
   have d0 : ρ (.tmp 41) = .slice (some ⟨b0, 0, none⟩) 1 1 := (hA.dep 1 (by decide) 41 rfl).trans e0
   rw [e0] at i0
   obtain ⟨b1, e1, i1⟩ : PL [0, 2] (val 2) W := hd 2 (by decide)
   have d1 : ρ (.tmp 42) = .slice (some ⟨b1, 0, none⟩) 2 2 := (hA.dep 2 (by decide) 42 rfl).trans e1
   rw [e1] at i1
   clear hd
   refine runq_val (by simp [execOp, d0, d1, go_sem]; exact ⟨rfl, rfl⟩) (by exact xx) ⟨_, _, _, [(.slice (some ⟨b0, 0, none⟩) 1 1, [1]), (.slice (some ⟨b1, 0, none⟩) 2 2, [0, 2])], rfl, rfl, fin_new _ _ _ _ _ rfl rfl ?_ (by simp)⟩
   intro x hx
   simp only [List.mem_cons, List.not_mem_nil, or_false] at hx
   rcases hx with rfl | rfl
   ·exact i0
   ·exact i1
  case s4 =>
   intro val ρ W hE hz hd hA hx
   obtain ⟨a, n, c, ps, h1, h2, h3⟩ : PF [[1], [0, 2]] (val 3) W := hd 3 (by decide)
   rw [h1] at h3
   have d1 : ρ (.tmp 43) = .slice a n c := (hA.dep 3 (by decide) 43 rfl).trans h1
   clear hd
   refine runq_call 53 _ _ rfl #[.slice a n c] (hA.func _) (by simp [d1]) (fun args W => Try.call53 args W) ((inL_any a n c W).mono ?_)
   rintro e w' ⟨rfl, hb⟩
   exact ⟨_, rfl, hb, a, n, c, ps, rfl, h2, h3.ext hb⟩
  case s5 =>
   intro val ρ W hE hz hd hA hx
   obtain ⟨a, n, c, ps, h1, h2, h3⟩ : PF [[1], [0, 2]] (val 4) W := hd 4 (by decide)
   rw [h1] at h3
   have d1 : ρ (.tmp 44) = .slice a n c := (hA.dep 4 (by decide) 44 rfl).trans h1
   have d0 : ρ (.tmp 40) = .agg #[.int .i64 B2.kd, .int .i64 B2.n, .slice (some ⟨g2, 0, none⟩) B2.bets.length 3, .slice none B2.scr.length 0, .bool B2.fav, .int .i64 B2.car, .int .i64 B2.duty, .int .i64 B2.step] := (hA.dep 0 (by decide) 40 rfl).trans (hd 0 (by decide))
   clear hd
   refine runq_call 32 _ _ rfl #[.agg #[.int .i64 B2.kd, .int .i64 B2.n, .slice (some ⟨g2, 0, none⟩) B2.bets.length 3, .slice none B2.scr.length 0, .bool B2.fav, .int .i64 B2.car, .int .i64 B2.duty, .int .i64 B2.step], .slice a n c] (hA.func _) (by simp [d0, d1]) (fun args W => Try.call32 args W) ((dividendsP_any ps _ B2 (some ⟨g2, 0, none⟩) none 3 0 W (HI2.out.ext hE) h3).mono ?_)
   rintro e w' ⟨hb, u, rfl, hr⟩
   rw [h2, V2b.out] at hr
   exact ⟨_, rfl, hb, u, by rw [h2, V2a.out], hr⟩
  case s6 =>
   intro val ρ W hE hz hd hA hx
   have h : PT 3 0 ([((0, -1), 60), ((1, -1), 100), ((2, -1), 150)].map divRow) (val 5) W := hd 5 (by decide)
   have d1 : ρ (.tmp 45) = val 5 := hA.dep 5 (by decide) 45 rfl
   clear hd
   exact runq_val (W' := W) (by simp [execOp, d1, go_sem]) (Below.refl _ _) h
  case s7 =>
   intro val ρ W hE hz hd hA hx
   obtain ⟨u, h1, h2⟩ : PT 3 0 ([((0, -1), 60), ((1, -1), 100), ((2, -1), 150)].map divRow) (val 6) W := hd 6 (by decide)
   have d1 : ρ (.tmp 39) = .tuple #[u, .int .i64 0] := (hA.dep 6 (by decide) 39 rfl).trans h1
   clear hd
   exact runq_val (W' := W) (by simp [execOp, d1, go_sem]) (Below.refl _ _) h2
  case s8 =>
   intro val ρ W hE hz hd hA hx
   obtain ⟨u, h1, h2⟩ : PT 3 0 ([((0, -1), 60), ((1, -1), 100), ((2, -1), 150)].map divRow) (val 6) W := hd 6 (by decide)
   have d1 : ρ (.tmp 39) = .tuple #[u, .int .i64 0] := (hA.dep 6 (by decide) 39 rfl).trans h1
   clear hd
   exact runq_val (W' := W) (by simp [execOp, d1, go_sem]) (Below.refl _ _) rfl
  case s9 =>
   intro val ρ W hE hz hd hA hx
   have h : IsRows W 3 (val 7) ([((0, -1), 60), ((1, -1), 100), ((2, -1), 150)].map divRow) := hd 7 (by decide)
   have d1 : ρ (.tmp 46) = val 7 := hA.dep 7 (by decide) 46 rfl
   clear hd
   exact runq_val (W' := W) (by simp [execOp, d1, go_sem]) (Below.refl _ _) h
  case send =>
   intro val Z2 hE hzz hv
   obtain ⟨r0, r1, r2, r3, r4, r5, r6, r7, r8, r9, r10, -⟩ := hv
   have r9' : IsRows Z2 3 (val 9) ([((0, -1), 60), ((1, -1), 100), ((2, -1), 150)].map divRow) := r9
   obtain ⟨uba, ubc, q9, -, -, -⟩ := divs_spec r9'
   rw [q9] at r9'
   have UB := Lib.hid r9'
   have q10 : val 10 = .int .i64 0 := r10
   replace HB1 := Lib.hid (HB1.out.ext hE)
   replace HB2 := Lib.hid (HB2.out.ext hE)
   replace HB3 := Lib.hid (HB3.out.ext hE)
   replace HI1 := Lib.hid (HI1.out.ext hE)
   replace HI2 := Lib.hid (HI2.out.ext hE)
   replace HI3 := Lib.hid (HI3.out.ext hE)
   replace UA := Lib.hid (UA.out.ext hE)
   replace HW := Lib.hid (HW.out.trans' hE)
   simp only [putD, q9, q10]
   go_frame
   clear hE hzz k0 k1 k2 k3 k4 k5 k6 k7 hzk r0 r1 r2 r3 r4 r5 r6 r7 r8 r9 r10 q9 q10 r9'
   go_upto_region 4 with (fail)
   have hbkF := HB1.out
   have k0 := hbkF.c0
   have k1 := hbkF.c1
   have k2 := hbkF.c2
   have k3 := hbkF.c3
   have k4 := hbkF.c4
   have k5 := hbkF.c5
   have k6 := hbkF.c6
   have k7 := hbkF.c7
   have hzk := hbkF.lt
   clear hbkF
   refine wp_region_rove (Z2.heap.size) (Nat.le_refl _)
    [sqV (.agg #[.int .i64 B1.kd, .int .i64 B1.n, .slice (some ⟨g1, 0, none⟩) B1.bets.length 3, .slice none B1.scr.length 0, .bool B1.fav, .int .i64 B1.car, .int .i64 B1.duty, .int .i64 B1.step]), sqW (fun v W => PL [0, 2] v W) (fun _ _ _ h e => PL.ext e h), sqW (fun v W => PL [1] v W) (fun _ _ _ h e => PL.ext e h), sqW (fun v W => PF [[0, 2], [1]] v W) (fun _ _ _ h e => PF.ext e h), sqW (fun v W => PF [[0, 2], [1]] v W) (fun _ _ _ h e => PF.ext e h), sqV (.tuple #[.agg #[.int .i64 1000, .int .i64 0, .int .i64 100, .int .i64 890, .int .i64 10, .int .i64 0], .int .i64 0]), sqV (.tuple #[.agg #[.int .i64 1000, .int .i64 0, .int .i64 100, .int .i64 890, .int .i64 10, .int .i64 0], .int .i64 0]), sqV (.agg #[.int .i64 1000, .int .i64 0, .int .i64 100, .int .i64 890, .int .i64 10, .int .i64 0]), sqV (.int .i64 0), sqW (fun v W => PA Z2.heap.size v W) (fun _ _ _ h e => PA.ext e h), sqD [9] (fun l v W => ∃ q, l = [.pointer (some ⟨q, 0, none⟩)] ∧ Z2.heap.size ≤ q ∧ AccAt W q ⟨1000, 0, 100, 890, 10, 0⟩) (fun _ _ _ _ ⟨q, h1, h2, h3⟩ e => ⟨q, h1, h2, h3.ext e⟩), sqV (.int .i64 0)]
    [true, false, false, false, false, true, true, true, true, false, false, true] [false, false, false, false, false, false, false, false, false, false, true, false] [true, false, false, false, false, true, true, true, true, false, true, true] [true, true, true, true, true, true, true, true, false, true, true, false]
    (by kernel_rfl) (by kernel_rfl) (by decide +kernel) (by decide +kernel) (by decide +kernel) rfl ⟨rfl, rfl⟩ ⟨?s0, ?s1, ?s2, ?s3, ?s4, ?s5, ?s6, ?s7, ?s8, ?s9, ?s10, ?s11, trivial⟩ [some 49, some 50, some 51, some 52, some 53, some 54, some 48, some 55, some 56, some 8, none, some 9] rfl rfl ?send
   case s0 =>
    intro val ρ W hE hz hd hA hx
    have o0 : ρ (.tmp 1) = .pointer (some ⟨q1, 0, none⟩) := hA.old 1 (by decide)
    have f_k0 := cell_below hE (by simp only; omega) k0
    have f_k1 := cell_below hE (by simp only; omega) k1
    have f_k2 := cell_below hE (by simp only; omega) k2
    have f_k3 := cell_below hE (by simp only; omega) k3
    have f_k4 := cell_below hE (by simp only; omega) k4
    have f_k5 := cell_below hE (by simp only; omega) k5
    have f_k6 := cell_below hE (by simp only; omega) k6
    have f_k7 := cell_below hE (by simp only; omega) k7
    clear hd
    exact runq_val (W' := W) (by simp [execOp, o0, f_k0, f_k1, f_k2, f_k3, f_k4, f_k5, f_k6, f_k7, go_sem]) (Below.refl _ _) rfl
   case s6 =>
    intro val ρ W hE hz hd hA hx
    have d5 : ρ (.tmp 54) = .tuple #[.agg #[.int .i64 1000, .int .i64 0, .int .i64 100, .int .i64 890, .int .i64 10, .int .i64 0], .int .i64 0] := (hA.dep 5 (by decide) 54 rfl).trans (hd 5 (by decide))
    clear hd
    exact runq_val (W' := W) (by simp [execOp, d5, go_sem]) (Below.refl _ _) rfl
   case s7 =>
    intro val ρ W hE hz hd hA hx
    have d6 : ρ (.tmp 48) = .tuple #[.agg #[.int .i64 1000, .int .i64 0, .int .i64 100, .int .i64 890, .int .i64 10, .int .i64 0], .int .i64 0] := (hA.dep 6 (by decide) 48 rfl).trans (hd 6 (by decide))
    clear hd
    exact runq_val (W' := W) (by simp [execOp, d6, go_sem]) (Below.refl _ _) rfl
   case s8 =>
    intro val ρ W hE hz hd hA hx
    have d6 : ρ (.tmp 48) = .tuple #[.agg #[.int .i64 1000, .int .i64 0, .int .i64 100, .int .i64 890, .int .i64 10, .int .i64 0], .int .i64 0] := (hA.dep 6 (by decide) 48 rfl).trans (hd 6 (by decide))
    clear hd
    exact runq_val (W' := W) (by simp [execOp, d6, go_sem]) (Below.refl _ _) rfl
   case s11 =>
    intro val ρ W hE hz hd hA hx
    have d8 : ρ (.tmp 56) = .int .i64 0 := (hA.dep 8 (by decide) 56 rfl).trans (hd 8 (by decide))
    clear hd
    exact runq_val (W' := W) (by simp [execOp, d8, go_sem]) (Below.refl _ _) rfl
   case s1 =>
    intro val ρ W hE hz hd hA hx
    clear hd
    exact runq_val (by simp [execOp, hA.const, go_sem]; exact ⟨rfl, rfl⟩) (by exact xx) ⟨_, rfl, pl_new _ [0, 2] _ _ _ rfl rfl (by decide)⟩
   case s2 =>
    intro val ρ W hE hz hd hA hx
    clear hd
    exact runq_val (by simp [execOp, hA.const, go_sem]; exact ⟨rfl, rfl⟩) (by exact xx) ⟨_, rfl, pl_new _ [1] _ _ _ rfl rfl (by decide)⟩
   case s3 =>
    intro val ρ W hE hz hd hA hx
    obtain ⟨b0, e0, i0⟩ : PL [0, 2] (val 1) W := hd 1 (by decide)
    have d0 : ρ (.tmp 50) = .slice (some ⟨b0, 0, none⟩) 2 2 := (hA.dep 1 (by decide) 50 rfl).trans e0
    rw [e0] at i0
    obtain ⟨b1, e1, i1⟩ : PL [1] (val 2) W := hd 2 (by decide)
    have d1 : ρ (.tmp 51) = .slice (some ⟨b1, 0, none⟩) 1 1 := (hA.dep 2 (by decide) 51 rfl).trans e1
    rw [e1] at i1
    clear hd
    refine runq_val (by simp [execOp, d0, d1, go_sem]; exact ⟨rfl, rfl⟩) (by exact xx) ⟨_, _, _, [(.slice (some ⟨b0, 0, none⟩) 2 2, [0, 2]), (.slice (some ⟨b1, 0, none⟩) 1 1, [1])], rfl, rfl, fin_new _ _ _ _ _ rfl rfl ?_ (by simp)⟩
    intro x hx
    simp only [List.mem_cons, List.not_mem_nil, or_false] at hx
    rcases hx with rfl | rfl
    ·exact i0
    ·exact i1
   case s4 =>
    intro val ρ W hE hz hd hA hx
    obtain ⟨a, n, c, ps, h1, h2, h3⟩ : PF [[0, 2], [1]] (val 3) W := hd 3 (by decide)
    rw [h1] at h3
    have d1 : ρ (.tmp 52) = .slice a n c := (hA.dep 3 (by decide) 52 rfl).trans h1
    clear hd
    refine runq_call 53 _ _ rfl #[.slice a n c] (hA.func _) (by simp [d1]) (fun args W => Try.call53 args W) ((inL_any a n c W).mono ?_)
    rintro e w' ⟨rfl, hb⟩
    exact ⟨_, rfl, hb, a, n, c, ps, rfl, h2, h3.ext hb⟩
   case s5 =>
    intro val ρ W hE hz hd hA hx
    obtain ⟨a, n, c, ps, h1, h2, h3⟩ : PF [[0, 2], [1]] (val 4) W := hd 4 (by decide)
    rw [h1] at h3
    have d1 : ρ (.tmp 53) = .slice a n c := (hA.dep 4 (by decide) 53 rfl).trans h1
    have d0 : ρ (.tmp 49) = .agg #[.int .i64 B1.kd, .int .i64 B1.n, .slice (some ⟨g1, 0, none⟩) B1.bets.length 3, .slice none B1.scr.length 0, .bool B1.fav, .int .i64 B1.car, .int .i64 B1.duty, .int .i64 B1.step] := (hA.dep 0 (by decide) 49 rfl).trans (hd 0 (by decide))
    clear hd
    refine runq_call 34 _ _ rfl #[.agg #[.int .i64 B1.kd, .int .i64 B1.n, .slice (some ⟨g1, 0, none⟩) B1.bets.length 3, .slice none B1.scr.length 0, .bool B1.fav, .int .i64 B1.car, .int .i64 B1.duty, .int .i64 B1.step], .slice a n c] (hA.func _) (by simp [d0, d1]) (fun args W => Try.call34 args W) ((account_any ps _ B1 (some ⟨g1, 0, none⟩) none 3 0 W (HI1.out.ext hE) h3).mono ?_)
    rintro e w' ⟨rfl, hb⟩
    exact ⟨_, rfl, hb, by rw [h2]; exact V3.out⟩
   case s9 =>
    intro val ρ W hE hz hd hA hx
    clear hd
    exact runq_val (W' := W.alloc (.cells #[.int .i64 0, .int .i64 0, .int .i64 0, .int .i64 0, .int .i64 0, .int .i64 0] 48)) (by simp [execOp, go_sem]) xx ⟨_, rfl, hE.size, World.alloc_heap_new W _⟩
   case s10 =>
    intro val ρ W hE hz hd hA hx
    obtain ⟨q, e1, hB, hacc⟩ : PA Z2.heap.size (val 9) W := hd 9 (by decide)
    have dq : ρ (.tmp 8) = .pointer (some ⟨q, 0, none⟩) := (hA.dep 9 (by decide) 8 rfl).trans e1
    have d5 : ρ (.tmp 55) = .agg #[.int .i64 1000, .int .i64 0, .int .i64 100, .int .i64 890, .int .i64 10, .int .i64 0] := (hA.dep 7 (by decide) 55 rfl).trans (hd 7 (by decide))
    clear hd
    have c0q := (hacc).c0
    have c1q := (hacc).c1
    have c2q := (hacc).c2
    have c3q := (hacc).c3
    have c4q := (hacc).c4
    have c5q := (hacc).c5
    have cfq := fun o => (hacc).fr o
    have czq := (hacc).lt
    simp only at c0q c1q c2q c3q c4q c5q
    exact runq_skip (W' := ((((((W.setCell ⟨q, 0, none⟩ (.int .i64 1000)).setCell ⟨q, 1, none⟩ (.int .i64 0)).setCell ⟨q, 2, none⟩ (.int .i64 100)).setCell ⟨q, 3, none⟩ (.int .i64 890)).setCell ⟨q, 4, none⟩ (.int .i64 10)).setCell ⟨q, 5, none⟩ (.int .i64 0))) (by simp [execOp, dq, d5, go_sem, c0q, c1q, c2q, c3q, c4q, c5q, cfq]) ((((((((Below.refl _ W).setCell hB _).setCell hB _).setCell hB _).setCell hB _).setCell hB _).setCell hB _)) ⟨q, congrArg (fun x => [x]) e1, hB, acc_set6 hacc _ _ _ _ _ _⟩
   case send =>
    intro val Z3 hE hzz hv
    obtain ⟨r0, r1, r2, r3, r4, r5, r6, r7, r8, r9, r10, r11, -⟩ := hv
    have q7 : val 7 = .agg #[.int .i64 1000, .int .i64 0, .int .i64 100, .int .i64 890, .int .i64 10, .int .i64 0] := r7
    have q11 : val 11 = .int .i64 0 := r11
    obtain ⟨uc, hq9, hucB, hucA⟩ : ∃ q, [val 9] = [.pointer (some ⟨q, 0, none⟩)] ∧ Z2.heap.size ≤ q ∧ AccAt Z3 q ⟨1000, 0, 100, 890, 10, 0⟩ := r10
    have q9 := (List.cons.inj hq9).1
    have UC := Lib.hid hucA
    replace HB1 := Lib.hid (HB1.out.ext hE)
    replace HB2 := Lib.hid (HB2.out.ext hE)
    replace HB3 := Lib.hid (HB3.out.ext hE)
    replace HI1 := Lib.hid (HI1.out.ext hE)
    replace HI2 := Lib.hid (HI2.out.ext hE)
    replace HI3 := Lib.hid (HI3.out.ext hE)
    replace UA := Lib.hid (UA.out.ext hE)
    replace UB := Lib.hid (UB.out.ext hE)
    replace HW := Lib.hid (HW.out.trans' hE)
    simp only [putD, q7, q11, q9]
    go_frame
    clear hE hzz k0 k1 k2 k3 k4 k5 k6 k7 hzk r0 r1 r2 r3 r4 r5 r6 r7 r8 r9 r11 hq9 hucB hucA q7 q11 q9
    go_upto_region 5 with (fail)
    have hbkF := HB1.out
    have k0 := hbkF.c0
    have k1 := hbkF.c1
    have k2 := hbkF.c2
    have k3 := hbkF.c3
    have k4 := hbkF.c4
    have k5 := hbkF.c5
    have k6 := hbkF.c6
    have k7 := hbkF.c7
    have hzk := hbkF.lt
    clear hbkF
    go_wp2_with fail
    refine (scratch_any 2 B1 (some ⟨g1, 0, none⟩) none 3 0 _ HI1.out).mono ?_
    rintro e Z4 ⟨hE4, ⟨hne, -⟩ | ⟨-, ba4, sa4, bc4, sc4, rfl, hI4⟩⟩
    ·exact absurd V4.out hne
    rw [V4s.out] at hI4 ⊢
    obtain ⟨S, hS⟩ : ∃ S, S = scrB := ⟨_, rfl⟩
    rw [← hS] at hI4 ⊢
    have HSS := Lib.hid hS
    simp only [bookV]
    clear hS k0 k1 k2 k3 k4 k5 k6 k7 hzk
    replace HB1 := Lib.hid (HB1.out.ext hE4)
    replace HB2 := Lib.hid (HB2.out.ext hE4)
    replace HB3 := Lib.hid (HB3.out.ext hE4)
    replace HI1 := Lib.hid (HI1.out.ext hE4)
    replace HI2 := Lib.hid (HI2.out.ext hE4)
    replace HI3 := Lib.hid (HI3.out.ext hE4)
    replace UA := Lib.hid (UA.out.ext hE4)
    replace UB := Lib.hid (UB.out.ext hE4)
    replace UC := Lib.hid (UC.out.ext hE4)
    replace HW := Lib.hid (HW.out.trans' hE4)
    clear hE4
    go_upto_region 6 with (fail)
    obtain ⟨Z5, hZ5⟩ : ∃ Z5, Z5 = Z4.alloc (.cells #[.int .i64 S.kd, .int .i64 S.n, .slice ba4 S.bets.length bc4, .slice sa4 S.scr.length sc4, .bool S.fav, .int .i64 S.car, .int .i64 S.duty, .int .i64 S.step] 25) := ⟨_, rfl⟩
    rw [← hZ5]
    obtain ⟨q4, hq4⟩ : ∃ q4, q4 = Z4.heap.size := ⟨_, rfl⟩
    rw [← hq4]
    have hr5 : RowB Z5 q4 #[.int .i64 S.kd, .int .i64 S.n, .slice ba4 S.bets.length bc4, .slice sa4 S.scr.length sc4, .bool S.fav, .int .i64 S.car, .int .i64 S.duty, .int .i64 S.step] := by rw [hZ5, hq4]; exact World.alloc_heap_new Z4 _
    have hE45 : Ext Z4 Z5 := by rw [hZ5]; exact xx
    have k4 : Z5.cell? ⟨q4, 4, none⟩ = some (.bool S.fav) := hr5.cell 4
    have kf := fun o => hr5.fr o
    have kz := hr5.lt
    have HQ4 := Lib.hid hq4
    have HR5 := Lib.hid hr5
    have HE45 := Lib.hid hE45
    clear hZ5 hq4 hr5 hE45
    go_upto_region 7 with (fail)
    obtain ⟨Z6, hZ6⟩ : ∃ Z6, Z6 = Z5.setCell ⟨q4, 4, none⟩ (.bool true) := ⟨_, rfl⟩
    rw [← hZ6]
    have hr6 := heap_setCell_row HR5.out 4 (.bool true)
    rw [← hZ6] at hr6
    have hE46 : Ext Z4 Z6 := by rw [hZ6]; exact HE45.out.setCell (by show Z4.heap.size ≤ q4; rw [HQ4.out]; exact Nat.le_refl _) _
    have hb4 : BookAt Z6 q4 B4 ba4 bc4 sa4 sc4 := by
     rw [VB4.out]
     rw [HSS.out] at hr6
     exact ⟨by rw [cell_of_row _ _ _ _ _ _ hr6]; rfl, by rw [cell_of_row _ _ _ _ _ _ hr6]; rfl, by rw [cell_of_row _ _ _ _ _ _ hr6]; rfl, by rw [cell_of_row _ _ _ _ _ _ hr6]; rfl, by rw [cell_of_row _ _ _ _ _ _ hr6]; rfl, by rw [cell_of_row _ _ _ _ _ _ hr6]; rfl, by rw [cell_of_row _ _ _ _ _ _ hr6]; rfl, by rw [cell_of_row _ _ _ _ _ _ hr6]; rfl⟩
    have hi4 : IsBook Z6 B4 ba4 bc4 sa4 sc4 := by
     rw [VB4.out]
     rw [HSS.out] at hI4
     exact ⟨(hI4.ext hE46).bets, (hI4.ext hE46).scr⟩
    have HB4 := Lib.hid hb4
    have HI4 := Lib.hid hi4
    replace HB1 := Lib.hid (HB1.out.ext hE46)
    replace HB2 := Lib.hid (HB2.out.ext hE46)
    replace HB3 := Lib.hid (HB3.out.ext hE46)
    replace HI1 := Lib.hid (HI1.out.ext hE46)
    replace HI2 := Lib.hid (HI2.out.ext hE46)
    replace HI3 := Lib.hid (HI3.out.ext hE46)
    replace UA := Lib.hid (UA.out.ext hE46)
    replace UB := Lib.hid (UB.out.ext hE46)
    replace UC := Lib.hid (UC.out.ext hE46)
    replace HW := Lib.hid (HW.out.trans' hE46)
    clear hr6 hb4 hi4 hI4 hE46 hZ6 HSS HR5 HE45 HQ4 k4 kf kz
    have hbkF := HB4.out
    have k0 := hbkF.c0
    have k1 := hbkF.c1
    have k2 := hbkF.c2
    have k3 := hbkF.c3
    have k4 := hbkF.c4
    have k5 := hbkF.c5
    have k6 := hbkF.c6
    have k7 := hbkF.c7
    have hzk := hbkF.lt
    clear hbkF
    refine wp_region_rove (Z6.heap.size) (Nat.le_refl _)
     [sqV (.agg #[.int .i64 B4.kd, .int .i64 B4.n, .slice ba4 B4.bets.length bc4, .slice sa4 B4.scr.length sc4, .bool B4.fav, .int .i64 B4.car, .int .i64 B4.duty, .int .i64 B4.step]), sqW (fun v W => PL [0] v W) (fun _ _ _ h e => PL.ext e h), sqW (fun v W => PL [1] v W) (fun _ _ _ h e => PL.ext e h), sqW (fun v W => PF [[0], [1]] v W) (fun _ _ _ h e => PF.ext e h), sqW (fun v W => PF [[0], [1]] v W) (fun _ _ _ h e => PF.ext e h), sqV (.tuple #[.agg #[.int .i64 1000, .int .i64 0, .int .i64 100, .int .i64 840, .int .i64 60, .int .i64 0], .int .i64 0]), sqV (.tuple #[.agg #[.int .i64 1000, .int .i64 0, .int .i64 100, .int .i64 840, .int .i64 60, .int .i64 0], .int .i64 0]), sqV (.agg #[.int .i64 1000, .int .i64 0, .int .i64 100, .int .i64 840, .int .i64 60, .int .i64 0]), sqV (.int .i64 0), sqW (fun v W => PA Z6.heap.size v W) (fun _ _ _ h e => PA.ext e h), sqD [9] (fun l v W => ∃ q, l = [.pointer (some ⟨q, 0, none⟩)] ∧ Z6.heap.size ≤ q ∧ AccAt W q ⟨1000, 0, 100, 840, 60, 0⟩) (fun _ _ _ _ ⟨q, h1, h2, h3⟩ e => ⟨q, h1, h2, h3.ext e⟩), sqV (.int .i64 0)]
     [true, false, false, false, false, true, true, true, true, false, false, true] [false, false, false, false, false, false, false, false, false, false, true, false] [true, false, false, false, false, true, true, true, true, false, true, true] [true, true, true, true, true, true, true, true, false, true, true, false]
     (by kernel_rfl) (by kernel_rfl) (by decide +kernel) (by decide +kernel) (by decide +kernel) rfl ⟨rfl, rfl⟩ ⟨?s0, ?s1, ?s2, ?s3, ?s4, ?s5, ?s6, ?s7, ?s8, ?s9, ?s10, ?s11, trivial⟩ [some 64, some 65, some 66, some 67, some 68, some 69, some 63, some 70, some 71, some 12, none, some 13] rfl rfl ?send
    case s0 =>
     intro val ρ W hE hz hd hA hx
     have o0 : ρ (.tmp 10) = .pointer (some ⟨q4, 0, none⟩) := hA.old 10 (by decide)
     have f_k0 := cell_below hE (by simp only; omega) k0
     have f_k1 := cell_below hE (by simp only; omega) k1
     have f_k2 := cell_below hE (by simp only; omega) k2
     have f_k3 := cell_below hE (by simp only; omega) k3
     have f_k4 := cell_below hE (by simp only; omega) k4
     have f_k5 := cell_below hE (by simp only; omega) k5
     have f_k6 := cell_below hE (by simp only; omega) k6
     have f_k7 := cell_below hE (by simp only; omega) k7
     clear hd
     exact runq_val (W' := W) (by simp [execOp, o0, f_k0, f_k1, f_k2, f_k3, f_k4, f_k5, f_k6, f_k7, go_sem]) (Below.refl _ _) rfl
    case s6 =>
     intro val ρ W hE hz hd hA hx
     have d5 : ρ (.tmp 69) = .tuple #[.agg #[.int .i64 1000, .int .i64 0, .int .i64 100, .int .i64 840, .int .i64 60, .int .i64 0], .int .i64 0] := (hA.dep 5 (by decide) 69 rfl).trans (hd 5 (by decide))
     clear hd
     exact runq_val (W' := W) (by simp [execOp, d5, go_sem]) (Below.refl _ _) rfl
    case s7 =>
     intro val ρ W hE hz hd hA hx
     have d6 : ρ (.tmp 63) = .tuple #[.agg #[.int .i64 1000, .int .i64 0, .int .i64 100, .int .i64 840, .int .i64 60, .int .i64 0], .int .i64 0] := (hA.dep 6 (by decide) 63 rfl).trans (hd 6 (by decide))
     clear hd
     exact runq_val (W' := W) (by simp [execOp, d6, go_sem]) (Below.refl _ _) rfl
    case s8 =>
     intro val ρ W hE hz hd hA hx
     have d6 : ρ (.tmp 63) = .tuple #[.agg #[.int .i64 1000, .int .i64 0, .int .i64 100, .int .i64 840, .int .i64 60, .int .i64 0], .int .i64 0] := (hA.dep 6 (by decide) 63 rfl).trans (hd 6 (by decide))
     clear hd
     exact runq_val (W' := W) (by simp [execOp, d6, go_sem]) (Below.refl _ _) rfl
    case s11 =>
     intro val ρ W hE hz hd hA hx
     have d8 : ρ (.tmp 71) = .int .i64 0 := (hA.dep 8 (by decide) 71 rfl).trans (hd 8 (by decide))
     clear hd
     exact runq_val (W' := W) (by simp [execOp, d8, go_sem]) (Below.refl _ _) rfl
    case s1 =>
     intro val ρ W hE hz hd hA hx
     clear hd
     exact runq_val (by simp [execOp, hA.const, go_sem]; exact ⟨rfl, rfl⟩) (by exact xx) ⟨_, rfl, pl_new _ [0] _ _ _ rfl rfl (by decide)⟩
    case s2 =>
     intro val ρ W hE hz hd hA hx
     clear hd
     exact runq_val (by simp [execOp, hA.const, go_sem]; exact ⟨rfl, rfl⟩) (by exact xx) ⟨_, rfl, pl_new _ [1] _ _ _ rfl rfl (by decide)⟩
    case s3 =>
     intro val ρ W hE hz hd hA hx
     obtain ⟨b0, e0, i0⟩ : PL [0] (val 1) W := hd 1 (by decide)
     have d0 : ρ (.tmp 65) = .slice (some ⟨b0, 0, none⟩) 1 1 := (hA.dep 1 (by decide) 65 rfl).trans e0
     rw [e0] at i0
     obtain ⟨b1, e1, i1⟩ : PL [1] (val 2) W := hd 2 (by decide)
     have d1 : ρ (.tmp 66) = .slice (some ⟨b1, 0, none⟩) 1 1 := (hA.dep 2 (by decide) 66 rfl).trans e1
     rw [e1] at i1
     clear hd
     refine runq_val (by simp [execOp, d0, d1, go_sem]; exact ⟨rfl, rfl⟩) (by exact xx) ⟨_, _, _, [(.slice (some ⟨b0, 0, none⟩) 1 1, [0]), (.slice (some ⟨b1, 0, none⟩) 1 1, [1])], rfl, rfl, fin_new _ _ _ _ _ rfl rfl ?_ (by simp)⟩
     intro x hx
     simp only [List.mem_cons, List.not_mem_nil, or_false] at hx
     rcases hx with rfl | rfl
     ·exact i0
     ·exact i1
    case s4 =>
     intro val ρ W hE hz hd hA hx
     obtain ⟨a, n, c, ps, h1, h2, h3⟩ : PF [[0], [1]] (val 3) W := hd 3 (by decide)
     rw [h1] at h3
     have d1 : ρ (.tmp 67) = .slice a n c := (hA.dep 3 (by decide) 67 rfl).trans h1
     clear hd
     refine runq_call 53 _ _ rfl #[.slice a n c] (hA.func _) (by simp [d1]) (fun args W => Try.call53 args W) ((inL_any a n c W).mono ?_)
     rintro e w' ⟨rfl, hb⟩
     exact ⟨_, rfl, hb, a, n, c, ps, rfl, h2, h3.ext hb⟩
    case s5 =>
     intro val ρ W hE hz hd hA hx
     obtain ⟨a, n, c, ps, h1, h2, h3⟩ : PF [[0], [1]] (val 4) W := hd 4 (by decide)
     rw [h1] at h3
     have d1 : ρ (.tmp 68) = .slice a n c := (hA.dep 4 (by decide) 68 rfl).trans h1
     have d0 : ρ (.tmp 64) = .agg #[.int .i64 B4.kd, .int .i64 B4.n, .slice ba4 B4.bets.length bc4, .slice sa4 B4.scr.length sc4, .bool B4.fav, .int .i64 B4.car, .int .i64 B4.duty, .int .i64 B4.step] := (hA.dep 0 (by decide) 64 rfl).trans (hd 0 (by decide))
     clear hd
     refine runq_call 34 _ _ rfl #[.agg #[.int .i64 B4.kd, .int .i64 B4.n, .slice ba4 B4.bets.length bc4, .slice sa4 B4.scr.length sc4, .bool B4.fav, .int .i64 B4.car, .int .i64 B4.duty, .int .i64 B4.step], .slice a n c] (hA.func _) (by simp [d0, d1]) (fun args W => Try.call34 args W) ((account_any ps _ B4 ba4 sa4 bc4 sc4 W (HI4.out.ext hE) h3).mono ?_)
     rintro e w' ⟨rfl, hb⟩
     exact ⟨_, rfl, hb, by rw [h2]; exact V5.out⟩
    case s9 =>
     intro val ρ W hE hz hd hA hx
     clear hd
     exact runq_val (W' := W.alloc (.cells #[.int .i64 0, .int .i64 0, .int .i64 0, .int .i64 0, .int .i64 0, .int .i64 0] 48)) (by simp [execOp, go_sem]) xx ⟨_, rfl, hE.size, World.alloc_heap_new W _⟩
    case s10 =>
     intro val ρ W hE hz hd hA hx
     obtain ⟨q, e1, hB, hacc⟩ : PA Z6.heap.size (val 9) W := hd 9 (by decide)
     have dq : ρ (.tmp 12) = .pointer (some ⟨q, 0, none⟩) := (hA.dep 9 (by decide) 12 rfl).trans e1
     have d5 : ρ (.tmp 70) = .agg #[.int .i64 1000, .int .i64 0, .int .i64 100, .int .i64 840, .int .i64 60, .int .i64 0] := (hA.dep 7 (by decide) 70 rfl).trans (hd 7 (by decide))
     clear hd
     have c0q := (hacc).c0
     have c1q := (hacc).c1
     have c2q := (hacc).c2
     have c3q := (hacc).c3
     have c4q := (hacc).c4
     have c5q := (hacc).c5
     have cfq := fun o => (hacc).fr o
     have czq := (hacc).lt
     simp only at c0q c1q c2q c3q c4q c5q
     exact runq_skip (W' := ((((((W.setCell ⟨q, 0, none⟩ (.int .i64 1000)).setCell ⟨q, 1, none⟩ (.int .i64 0)).setCell ⟨q, 2, none⟩ (.int .i64 100)).setCell ⟨q, 3, none⟩ (.int .i64 840)).setCell ⟨q, 4, none⟩ (.int .i64 60)).setCell ⟨q, 5, none⟩ (.int .i64 0))) (by simp [execOp, dq, d5, go_sem, c0q, c1q, c2q, c3q, c4q, c5q, cfq]) ((((((((Below.refl _ W).setCell hB _).setCell hB _).setCell hB _).setCell hB _).setCell hB _).setCell hB _)) ⟨q, congrArg (fun x => [x]) e1, hB, acc_set6 hacc _ _ _ _ _ _⟩
    case send =>
     intro val Z7 hE hzz hv
     obtain ⟨r0, r1, r2, r3, r4, r5, r6, r7, r8, r9, r10, r11, -⟩ := hv
     have q7 : val 7 = .agg #[.int .i64 1000, .int .i64 0, .int .i64 100, .int .i64 840, .int .i64 60, .int .i64 0] := r7
     have q11 : val 11 = .int .i64 0 := r11
     obtain ⟨ud, hq9, hudB, hudA⟩ : ∃ q, [val 9] = [.pointer (some ⟨q, 0, none⟩)] ∧ Z6.heap.size ≤ q ∧ AccAt Z7 q ⟨1000, 0, 100, 840, 60, 0⟩ := r10
     have q9 := (List.cons.inj hq9).1
     have UD := Lib.hid hudA
     replace HB1 := Lib.hid (HB1.out.ext hE)
     replace HB2 := Lib.hid (HB2.out.ext hE)
     replace HB3 := Lib.hid (HB3.out.ext hE)
     replace HI1 := Lib.hid (HI1.out.ext hE)
     replace HI2 := Lib.hid (HI2.out.ext hE)
     replace HI3 := Lib.hid (HI3.out.ext hE)
     replace UA := Lib.hid (UA.out.ext hE)
     replace UB := Lib.hid (UB.out.ext hE)
     replace UC := Lib.hid (UC.out.ext hE)
     replace HB4 := Lib.hid (HB4.out.ext hE)
     replace HI4 := Lib.hid (HI4.out.ext hE)
     replace HW := Lib.hid (HW.out.trans' hE)
     simp only [putD, q7, q11, q9]
     go_frame
     clear hE hzz k0 k1 k2 k3 k4 k5 k6 k7 hzk r0 r1 r2 r3 r4 r5 r6 r7 r8 r9 r11 hq9 hudB hudA q7 q11 q9
     go_upto_region 8 with (fail)
     have hbkF := HB3.out
     have k0 := hbkF.c0
     have k1 := hbkF.c1
     have k2 := hbkF.c2
     have k3 := hbkF.c3
     have k4 := hbkF.c4
     have k5 := hbkF.c5
     have k6 := hbkF.c6
     have k7 := hbkF.c7
     have hzk := hbkF.lt
     clear hbkF
     refine wp_region_rove (Z7.heap.size) (Nat.le_refl _)
      [sqV (.agg #[.int .i64 B3.kd, .int .i64 B3.n, .slice (some ⟨g3, 0, none⟩) B3.bets.length 2, .slice none B3.scr.length 0, .bool B3.fav, .int .i64 B3.car, .int .i64 B3.duty, .int .i64 B3.step]), sqW (fun v W => PL [2] v W) (fun _ _ _ h e => PL.ext e h), sqW (fun v W => PL [0] v W) (fun _ _ _ h e => PL.ext e h), sqW (fun v W => PL [1] v W) (fun _ _ _ h e => PL.ext e h), sqW (fun v W => PF [[2], [0], [1]] v W) (fun _ _ _ h e => PF.ext e h), sqW (fun v W => PF [[2], [0], [1]] v W) (fun _ _ _ h e => PF.ext e h), sqW (fun v W => PT 2 0 ([(2, 0)].map twoRow) v W) (fun _ _ _ h e => PT.ext e h), sqW (fun v W => PT 2 0 ([(2, 0)].map twoRow) v W) (fun _ _ _ h e => PT.ext e h), sqW (fun v W => IsRows W 2 v ([(2, 0)].map twoRow)) (fun _ _ _ h e => IsRows.ext e h), sqV (.int .i64 0), sqW (fun v W => IsRows W 2 v ([(2, 0)].map twoRow)) (fun _ _ _ h e => IsRows.ext e h), sqV (.int .i64 0)]
      [true, false, false, false, false, false, false, false, false, true, false, true] [false, false, false, false, false, false, false, false, false, false, false, false] [true, true, true, true, true, true, true, true, true, true, true, true] [true, true, true, true, true, true, true, true, true, true, true, true]
      (by kernel_rfl) (by kernel_rfl) (by decide +kernel) (by decide +kernel) (by decide +kernel) rfl ⟨rfl, rfl⟩ ⟨?s0, ?s1, ?s2, ?s3, ?s4, ?s5, ?s6, ?s7, ?s8, ?s9, ?s10, ?s11, trivial⟩ [some 73, some 74, some 75, some 76, some 77, some 78, some 79, some 72, some 80, some 81, some 14, some 15] rfl rfl ?send
     case s0 =>
      intro val ρ W hE hz hd hA hx
      have o0 : ρ (.tmp 3) = .pointer (some ⟨q1 + 1 + 1, 0, none⟩) := hA.old 3 (by decide)
      have f_k0 := cell_below hE (by simp only; omega) k0
      have f_k1 := cell_below hE (by simp only; omega) k1
      have f_k2 := cell_below hE (by simp only; omega) k2
      have f_k3 := cell_below hE (by simp only; omega) k3
      have f_k4 := cell_below hE (by simp only; omega) k4
      have f_k5 := cell_below hE (by simp only; omega) k5
      have f_k6 := cell_below hE (by simp only; omega) k6
      have f_k7 := cell_below hE (by simp only; omega) k7
      clear hd
      exact runq_val (W' := W) (by simp [execOp, o0, f_k0, f_k1, f_k2, f_k3, f_k4, f_k5, f_k6, f_k7, go_sem]) (Below.refl _ _) rfl
     case s11 =>
      intro val ρ W hE hz hd hA hx
      have d9 : ρ (.tmp 81) = .int .i64 0 := (hA.dep 9 (by decide) 81 rfl).trans (hd 9 (by decide))
      clear hd
      exact runq_val (W' := W) (by simp [execOp, d9, go_sem]) (Below.refl _ _) rfl
     case s1 =>
      intro val ρ W hE hz hd hA hx
      clear hd
      exact runq_val (by simp [execOp, hA.const, go_sem]; exact ⟨rfl, rfl⟩) (by exact xx) ⟨_, rfl, pl_new _ [2] _ _ _ rfl rfl (by decide)⟩
     case s2 =>
      intro val ρ W hE hz hd hA hx
      clear hd
      exact runq_val (by simp [execOp, hA.const, go_sem]; exact ⟨rfl, rfl⟩) (by exact xx) ⟨_, rfl, pl_new _ [0] _ _ _ rfl rfl (by decide)⟩
     case s3 =>
      intro val ρ W hE hz hd hA hx
      clear hd
      exact runq_val (by simp [execOp, hA.const, go_sem]; exact ⟨rfl, rfl⟩) (by exact xx) ⟨_, rfl, pl_new _ [1] _ _ _ rfl rfl (by decide)⟩
     case s4 =>
      intro val ρ W hE hz hd hA hx
      obtain ⟨b0, e0, i0⟩ : PL [2] (val 1) W := hd 1 (by decide)
      have d0 : ρ (.tmp 74) = .slice (some ⟨b0, 0, none⟩) 1 1 := (hA.dep 1 (by decide) 74 rfl).trans e0
      rw [e0] at i0
      obtain ⟨b1, e1, i1⟩ : PL [0] (val 2) W := hd 2 (by decide)
      have d1 : ρ (.tmp 75) = .slice (some ⟨b1, 0, none⟩) 1 1 := (hA.dep 2 (by decide) 75 rfl).trans e1
      rw [e1] at i1
      obtain ⟨b2, e2, i2⟩ : PL [1] (val 3) W := hd 3 (by decide)
      have d2 : ρ (.tmp 76) = .slice (some ⟨b2, 0, none⟩) 1 1 := (hA.dep 3 (by decide) 76 rfl).trans e2
      rw [e2] at i2
      clear hd
      refine runq_val (by simp [execOp, d0, d1, d2, go_sem]; exact ⟨rfl, rfl⟩) (by exact xx) ⟨_, _, _, [(.slice (some ⟨b0, 0, none⟩) 1 1, [2]), (.slice (some ⟨b1, 0, none⟩) 1 1, [0]), (.slice (some ⟨b2, 0, none⟩) 1 1, [1])], rfl, rfl, fin_new _ _ _ _ _ rfl rfl ?_ (by simp)⟩
      intro x hx
      simp only [List.mem_cons, List.not_mem_nil, or_false] at hx
      rcases hx with rfl | rfl | rfl
      ·exact i0
      ·exact i1
      ·exact i2
     case s5 =>
      intro val ρ W hE hz hd hA hx
      obtain ⟨a, n, c, ps, h1, h2, h3⟩ : PF [[2], [0], [1]] (val 4) W := hd 4 (by decide)
      rw [h1] at h3
      have d1 : ρ (.tmp 77) = .slice a n c := (hA.dep 4 (by decide) 77 rfl).trans h1
      clear hd
      refine runq_call 53 _ _ rfl #[.slice a n c] (hA.func _) (by simp [d1]) (fun args W => Try.call53 args W) ((inL_any a n c W).mono ?_)
      rintro e w' ⟨rfl, hb⟩
      exact ⟨_, rfl, hb, a, n, c, ps, rfl, h2, h3.ext hb⟩
     case s6 =>
      intro val ρ W hE hz hd hA hx
      obtain ⟨a, n, c, ps, h1, h2, h3⟩ : PF [[2], [0], [1]] (val 5) W := hd 5 (by decide)
      rw [h1] at h3
      have d1 : ρ (.tmp 78) = .slice a n c := (hA.dep 5 (by decide) 78 rfl).trans h1
      have d0 : ρ (.tmp 73) = .agg #[.int .i64 B3.kd, .int .i64 B3.n, .slice (some ⟨g3, 0, none⟩) B3.bets.length 2, .slice none B3.scr.length 0, .bool B3.fav, .int .i64 B3.car, .int .i64 B3.duty, .int .i64 B3.step] := (hA.dep 0 (by decide) 73 rfl).trans (hd 0 (by decide))
      clear hd
      refine runq_call 27 _ _ rfl #[.agg #[.int .i64 B3.kd, .int .i64 B3.n, .slice (some ⟨g3, 0, none⟩) B3.bets.length 2, .slice none B3.scr.length 0, .bool B3.fav, .int .i64 B3.car, .int .i64 B3.duty, .int .i64 B3.step], .slice a n c] (hA.func _) (by simp [d0, d1]) (fun args W => Try.call27 args W) ((winnersP_any ps _ B3 (some ⟨g3, 0, none⟩) none 2 0 W (HI3.out.ext hE) h3).mono ?_)
      rintro e w' ⟨hb, u, rfl, hr⟩
      rw [h2, V6b.out] at hr
      exact ⟨_, rfl, hb, u, by rw [h2, V6a.out], hr⟩
     case s7 =>
      intro val ρ W hE hz hd hA hx
      have h : PT 2 0 ([(2, 0)].map twoRow) (val 6) W := hd 6 (by decide)
      have d1 : ρ (.tmp 79) = val 6 := hA.dep 6 (by decide) 79 rfl
      clear hd
      exact runq_val (W' := W) (by simp [execOp, d1, go_sem]) (Below.refl _ _) h
     case s8 =>
      intro val ρ W hE hz hd hA hx
      obtain ⟨u, h1, h2⟩ : PT 2 0 ([(2, 0)].map twoRow) (val 7) W := hd 7 (by decide)
      have d1 : ρ (.tmp 72) = .tuple #[u, .int .i64 0] := (hA.dep 7 (by decide) 72 rfl).trans h1
      clear hd
      exact runq_val (W' := W) (by simp [execOp, d1, go_sem]) (Below.refl _ _) h2
     case s9 =>
      intro val ρ W hE hz hd hA hx
      obtain ⟨u, h1, h2⟩ : PT 2 0 ([(2, 0)].map twoRow) (val 7) W := hd 7 (by decide)
      have d1 : ρ (.tmp 72) = .tuple #[u, .int .i64 0] := (hA.dep 7 (by decide) 72 rfl).trans h1
      clear hd
      exact runq_val (W' := W) (by simp [execOp, d1, go_sem]) (Below.refl _ _) rfl
     case s10 =>
      intro val ρ W hE hz hd hA hx
      have h : IsRows W 2 (val 8) ([(2, 0)].map twoRow) := hd 8 (by decide)
      have d1 : ρ (.tmp 80) = val 8 := hA.dep 8 (by decide) 80 rfl
      clear hd
      exact runq_val (W' := W) (by simp [execOp, d1, go_sem]) (Below.refl _ _) h
     case send =>
      intro val Z8 hE hzz hv
      obtain ⟨r0, r1, r2, r3, r4, r5, r6, r7, r8, r9, r10, r11, -⟩ := hv
      have r10' : IsRows Z8 2 (val 10) ([(2, 0)].map twoRow) := r10
      obtain ⟨uea, uec, q10, -, -, -⟩ := twos_spec r10'
      rw [q10] at r10'
      have UE := Lib.hid r10'
      have q11 : val 11 = .int .i64 0 := r11
      replace HB1 := Lib.hid (HB1.out.ext hE)
      replace HB2 := Lib.hid (HB2.out.ext hE)
      replace HB3 := Lib.hid (HB3.out.ext hE)
      replace HI1 := Lib.hid (HI1.out.ext hE)
      replace HI2 := Lib.hid (HI2.out.ext hE)
      replace HI3 := Lib.hid (HI3.out.ext hE)
      replace UA := Lib.hid (UA.out.ext hE)
      replace UB := Lib.hid (UB.out.ext hE)
      replace UC := Lib.hid (UC.out.ext hE)
      replace UD := Lib.hid (UD.out.ext hE)
      replace HW := Lib.hid (HW.out.trans' hE)
      simp only [putD, q10, q11]
      go_frame
      clear hE hzz k0 k1 k2 k3 k4 k5 k6 k7 hzk r0 r1 r2 r3 r4 r5 r6 r7 r8 r9 r10 r11 q10 q11 r10'
      go_upto_region 9 with (fail)
      have hbkF := HB3.out
      have k0 := hbkF.c0
      have k1 := hbkF.c1
      have k2 := hbkF.c2
      have k3 := hbkF.c3
      have k4 := hbkF.c4
      have k5 := hbkF.c5
      have k6 := hbkF.c6
      have k7 := hbkF.c7
      have hzk := hbkF.lt
      clear hbkF
      refine wp_region_rove (Z8.heap.size) (Nat.le_refl _)
       [sqV (.agg #[.int .i64 B3.kd, .int .i64 B3.n, .slice (some ⟨g3, 0, none⟩) B3.bets.length 2, .slice none B3.scr.length 0, .bool B3.fav, .int .i64 B3.car, .int .i64 B3.duty, .int .i64 B3.step]), sqW (fun v W => PL [2] v W) (fun _ _ _ h e => PL.ext e h), sqW (fun v W => PL [0] v W) (fun _ _ _ h e => PL.ext e h), sqW (fun v W => PL [1] v W) (fun _ _ _ h e => PL.ext e h), sqW (fun v W => PF [[2], [0], [1]] v W) (fun _ _ _ h e => PF.ext e h), sqW (fun v W => PF [[2], [0], [1]] v W) (fun _ _ _ h e => PF.ext e h), sqW (fun v W => PT 3 19 ((divL B3 [[2], [0], [1]]).map divRow) v W) (fun _ _ _ h e => PT.ext e h), sqW (fun v W => PT 3 19 ((divL B3 [[2], [0], [1]]).map divRow) v W) (fun _ _ _ h e => PT.ext e h), sqW (fun v W => IsRows W 3 v ((divL B3 [[2], [0], [1]]).map divRow)) (fun _ _ _ h e => IsRows.ext e h), sqV (.int .i64 19), sqW (fun v W => IsRows W 3 v ((divL B3 [[2], [0], [1]]).map divRow)) (fun _ _ _ h e => IsRows.ext e h), sqV (.int .i64 19)]
       [true, false, false, false, false, false, false, false, false, true, false, true] [false, false, false, false, false, false, false, false, false, false, false, false] [true, true, true, true, true, true, true, true, true, true, true, true] [true, true, true, true, true, true, true, true, true, true, true, true]
       (by kernel_rfl) (by kernel_rfl) (by decide +kernel) (by decide +kernel) (by decide +kernel) rfl ⟨rfl, rfl⟩ ⟨?s0, ?s1, ?s2, ?s3, ?s4, ?s5, ?s6, ?s7, ?s8, ?s9, ?s10, ?s11, trivial⟩ [some 83, some 84, some 85, some 86, some 87, some 88, some 89, some 82, some 90, some 91, some 16, some 17] rfl rfl ?send
      case s0 =>
       intro val ρ W hE hz hd hA hx
       have o0 : ρ (.tmp 3) = .pointer (some ⟨q1 + 1 + 1, 0, none⟩) := hA.old 3 (by decide)
       have f_k0 := cell_below hE (by simp only; omega) k0
       have f_k1 := cell_below hE (by simp only; omega) k1
       have f_k2 := cell_below hE (by simp only; omega) k2
       have f_k3 := cell_below hE (by simp only; omega) k3
       have f_k4 := cell_below hE (by simp only; omega) k4
       have f_k5 := cell_below hE (by simp only; omega) k5
       have f_k6 := cell_below hE (by simp only; omega) k6
       have f_k7 := cell_below hE (by simp only; omega) k7
       clear hd
       exact runq_val (W' := W) (by simp [execOp, o0, f_k0, f_k1, f_k2, f_k3, f_k4, f_k5, f_k6, f_k7, go_sem]) (Below.refl _ _) rfl
      case s11 =>
       intro val ρ W hE hz hd hA hx
       have d9 : ρ (.tmp 91) = .int .i64 19 := (hA.dep 9 (by decide) 91 rfl).trans (hd 9 (by decide))
       clear hd
       exact runq_val (W' := W) (by simp [execOp, d9, go_sem]) (Below.refl _ _) rfl
      case s1 =>
       intro val ρ W hE hz hd hA hx
       clear hd
       exact runq_val (by simp [execOp, hA.const, go_sem]; exact ⟨rfl, rfl⟩) (by exact xx) ⟨_, rfl, pl_new _ [2] _ _ _ rfl rfl (by decide)⟩
      case s2 =>
       intro val ρ W hE hz hd hA hx
       clear hd
       exact runq_val (by simp [execOp, hA.const, go_sem]; exact ⟨rfl, rfl⟩) (by exact xx) ⟨_, rfl, pl_new _ [0] _ _ _ rfl rfl (by decide)⟩
      case s3 =>
       intro val ρ W hE hz hd hA hx
       clear hd
       exact runq_val (by simp [execOp, hA.const, go_sem]; exact ⟨rfl, rfl⟩) (by exact xx) ⟨_, rfl, pl_new _ [1] _ _ _ rfl rfl (by decide)⟩
      case s4 =>
       intro val ρ W hE hz hd hA hx
       obtain ⟨b0, e0, i0⟩ : PL [2] (val 1) W := hd 1 (by decide)
       have d0 : ρ (.tmp 84) = .slice (some ⟨b0, 0, none⟩) 1 1 := (hA.dep 1 (by decide) 84 rfl).trans e0
       rw [e0] at i0
       obtain ⟨b1, e1, i1⟩ : PL [0] (val 2) W := hd 2 (by decide)
       have d1 : ρ (.tmp 85) = .slice (some ⟨b1, 0, none⟩) 1 1 := (hA.dep 2 (by decide) 85 rfl).trans e1
       rw [e1] at i1
       obtain ⟨b2, e2, i2⟩ : PL [1] (val 3) W := hd 3 (by decide)
       have d2 : ρ (.tmp 86) = .slice (some ⟨b2, 0, none⟩) 1 1 := (hA.dep 3 (by decide) 86 rfl).trans e2
       rw [e2] at i2
       clear hd
       refine runq_val (by simp [execOp, d0, d1, d2, go_sem]; exact ⟨rfl, rfl⟩) (by exact xx) ⟨_, _, _, [(.slice (some ⟨b0, 0, none⟩) 1 1, [2]), (.slice (some ⟨b1, 0, none⟩) 1 1, [0]), (.slice (some ⟨b2, 0, none⟩) 1 1, [1])], rfl, rfl, fin_new _ _ _ _ _ rfl rfl ?_ (by simp)⟩
       intro x hx
       simp only [List.mem_cons, List.not_mem_nil, or_false] at hx
       rcases hx with rfl | rfl | rfl
       ·exact i0
       ·exact i1
       ·exact i2
      case s5 =>
       intro val ρ W hE hz hd hA hx
       obtain ⟨a, n, c, ps, h1, h2, h3⟩ : PF [[2], [0], [1]] (val 4) W := hd 4 (by decide)
       rw [h1] at h3
       have d1 : ρ (.tmp 87) = .slice a n c := (hA.dep 4 (by decide) 87 rfl).trans h1
       clear hd
       refine runq_call 53 _ _ rfl #[.slice a n c] (hA.func _) (by simp [d1]) (fun args W => Try.call53 args W) ((inL_any a n c W).mono ?_)
       rintro e w' ⟨rfl, hb⟩
       exact ⟨_, rfl, hb, a, n, c, ps, rfl, h2, h3.ext hb⟩
      case s6 =>
       intro val ρ W hE hz hd hA hx
       obtain ⟨a, n, c, ps, h1, h2, h3⟩ : PF [[2], [0], [1]] (val 5) W := hd 5 (by decide)
       rw [h1] at h3
       have d1 : ρ (.tmp 88) = .slice a n c := (hA.dep 5 (by decide) 88 rfl).trans h1
       have d0 : ρ (.tmp 83) = .agg #[.int .i64 B3.kd, .int .i64 B3.n, .slice (some ⟨g3, 0, none⟩) B3.bets.length 2, .slice none B3.scr.length 0, .bool B3.fav, .int .i64 B3.car, .int .i64 B3.duty, .int .i64 B3.step] := (hA.dep 0 (by decide) 83 rfl).trans (hd 0 (by decide))
       clear hd
       refine runq_call 32 _ _ rfl #[.agg #[.int .i64 B3.kd, .int .i64 B3.n, .slice (some ⟨g3, 0, none⟩) B3.bets.length 2, .slice none B3.scr.length 0, .bool B3.fav, .int .i64 B3.car, .int .i64 B3.duty, .int .i64 B3.step], .slice a n c] (hA.func _) (by simp [d0, d1]) (fun args W => Try.call32 args W) ((dividendsP_any ps _ B3 (some ⟨g3, 0, none⟩) none 2 0 W (HI3.out.ext hE) h3).mono ?_)
       rintro e w' ⟨hb, u, rfl, hr⟩
       rw [h2] at hr
       exact ⟨_, rfl, hb, u, by rw [h2, V7a.out], hr⟩
      case s7 =>
       intro val ρ W hE hz hd hA hx
       have h : PT 3 19 ((divL B3 [[2], [0], [1]]).map divRow) (val 6) W := hd 6 (by decide)
       have d1 : ρ (.tmp 89) = val 6 := hA.dep 6 (by decide) 89 rfl
       clear hd
       exact runq_val (W' := W) (by simp [execOp, d1, go_sem]) (Below.refl _ _) h
      case s8 =>
       intro val ρ W hE hz hd hA hx
       obtain ⟨u, h1, h2⟩ : PT 3 19 ((divL B3 [[2], [0], [1]]).map divRow) (val 7) W := hd 7 (by decide)
       have d1 : ρ (.tmp 82) = .tuple #[u, .int .i64 19] := (hA.dep 7 (by decide) 82 rfl).trans h1
       clear hd
       exact runq_val (W' := W) (by simp [execOp, d1, go_sem]) (Below.refl _ _) h2
      case s9 =>
       intro val ρ W hE hz hd hA hx
       obtain ⟨u, h1, h2⟩ : PT 3 19 ((divL B3 [[2], [0], [1]]).map divRow) (val 7) W := hd 7 (by decide)
       have d1 : ρ (.tmp 82) = .tuple #[u, .int .i64 19] := (hA.dep 7 (by decide) 82 rfl).trans h1
       clear hd
       exact runq_val (W' := W) (by simp [execOp, d1, go_sem]) (Below.refl _ _) rfl
      case s10 =>
       intro val ρ W hE hz hd hA hx
       have h : IsRows W 3 (val 8) ((divL B3 [[2], [0], [1]]).map divRow) := hd 8 (by decide)
       have d1 : ρ (.tmp 90) = val 8 := hA.dep 8 (by decide) 90 rfl
       clear hd
       exact runq_val (W' := W) (by simp [execOp, d1, go_sem]) (Below.refl _ _) h
      case send =>
       intro val Z9 hE hzz hv
       obtain ⟨r0, r1, r2, r3, r4, r5, r6, r7, r8, r9, r10, r11, -⟩ := hv
       have r10' : IsRows Z9 3 (val 10) ((divL B3 [[2], [0], [1]]).map divRow) := r10
       obtain ⟨ufa, ufc, q10, -, -, -⟩ := divs_spec r10'
       rw [q10] at r10'
       have UF := Lib.hid r10'
       have q11 : val 11 = .int .i64 19 := r11
       replace HB1 := Lib.hid (HB1.out.ext hE)
       replace HB2 := Lib.hid (HB2.out.ext hE)
       replace HB3 := Lib.hid (HB3.out.ext hE)
       replace HI1 := Lib.hid (HI1.out.ext hE)
       replace HI2 := Lib.hid (HI2.out.ext hE)
       replace HI3 := Lib.hid (HI3.out.ext hE)
       replace UA := Lib.hid (UA.out.ext hE)
       replace UB := Lib.hid (UB.out.ext hE)
       replace UC := Lib.hid (UC.out.ext hE)
       replace UD := Lib.hid (UD.out.ext hE)
       replace UE := Lib.hid (UE.out.ext hE)
       replace HW := Lib.hid (HW.out.trans' hE)
       simp only [putD, q10, q11]
       go_frame
       clear hE hzz k0 k1 k2 k3 k4 k5 k6 k7 hzk r0 r1 r2 r3 r4 r5 r6 r7 r8 r9 r10 r11 q10 q11 r10'
       go_upto_region 10 with (fail)
       have hbkF := HB3.out
       have k0 := hbkF.c0
       have k1 := hbkF.c1
       have k2 := hbkF.c2
       have k3 := hbkF.c3
       have k4 := hbkF.c4
       have k5 := hbkF.c5
       have k6 := hbkF.c6
       have k7 := hbkF.c7
       have hzk := hbkF.lt
       clear hbkF
       refine wp_region_rove (Z9.heap.size) (Nat.le_refl _)
        [sqV (.agg #[.int .i64 B3.kd, .int .i64 B3.n, .slice (some ⟨g3, 0, none⟩) B3.bets.length 2, .slice none B3.scr.length 0, .bool B3.fav, .int .i64 B3.car, .int .i64 B3.duty, .int .i64 B3.step]), sqW (fun v W => PL [0, 1] v W) (fun _ _ _ h e => PL.ext e h), sqW (fun v W => PL [2] v W) (fun _ _ _ h e => PL.ext e h), sqW (fun v W => PF [[0, 1], [2]] v W) (fun _ _ _ h e => PF.ext e h), sqW (fun v W => PF [[0, 1], [2]] v W) (fun _ _ _ h e => PF.ext e h), sqV (.tuple #[.agg #[.int .i64 550, .int .i64 0, .int .i64 0, .int .i64 530, .int .i64 20, .int .i64 0], .int .i64 0]), sqV (.tuple #[.agg #[.int .i64 550, .int .i64 0, .int .i64 0, .int .i64 530, .int .i64 20, .int .i64 0], .int .i64 0]), sqV (.agg #[.int .i64 550, .int .i64 0, .int .i64 0, .int .i64 530, .int .i64 20, .int .i64 0]), sqV (.int .i64 0), sqW (fun v W => PA Z9.heap.size v W) (fun _ _ _ h e => PA.ext e h), sqD [9] (fun l v W => ∃ q, l = [.pointer (some ⟨q, 0, none⟩)] ∧ Z9.heap.size ≤ q ∧ AccAt W q ⟨550, 0, 0, 530, 20, 0⟩) (fun _ _ _ _ ⟨q, h1, h2, h3⟩ e => ⟨q, h1, h2, h3.ext e⟩), sqV (.int .i64 0)]
        [true, false, false, false, false, true, true, true, true, false, false, true] [false, false, false, false, false, false, false, false, false, false, true, false] [true, false, false, false, false, true, true, true, true, false, true, true] [true, true, true, true, true, true, true, true, false, true, true, false]
        (by kernel_rfl) (by kernel_rfl) (by decide +kernel) (by decide +kernel) (by decide +kernel) rfl ⟨rfl, rfl⟩ ⟨?s0, ?s1, ?s2, ?s3, ?s4, ?s5, ?s6, ?s7, ?s8, ?s9, ?s10, ?s11, trivial⟩ [some 93, some 94, some 95, some 96, some 97, some 98, some 92, some 99, some 100, some 18, none, some 19] rfl rfl ?send
       case s0 =>
        intro val ρ W hE hz hd hA hx
        have o0 : ρ (.tmp 3) = .pointer (some ⟨q1 + 1 + 1, 0, none⟩) := hA.old 3 (by decide)
        have f_k0 := cell_below hE (by simp only; omega) k0
        have f_k1 := cell_below hE (by simp only; omega) k1
        have f_k2 := cell_below hE (by simp only; omega) k2
        have f_k3 := cell_below hE (by simp only; omega) k3
        have f_k4 := cell_below hE (by simp only; omega) k4
        have f_k5 := cell_below hE (by simp only; omega) k5
        have f_k6 := cell_below hE (by simp only; omega) k6
        have f_k7 := cell_below hE (by simp only; omega) k7
        clear hd
        exact runq_val (W' := W) (by simp [execOp, o0, f_k0, f_k1, f_k2, f_k3, f_k4, f_k5, f_k6, f_k7, go_sem]) (Below.refl _ _) rfl
       case s6 =>
        intro val ρ W hE hz hd hA hx
        have d5 : ρ (.tmp 98) = .tuple #[.agg #[.int .i64 550, .int .i64 0, .int .i64 0, .int .i64 530, .int .i64 20, .int .i64 0], .int .i64 0] := (hA.dep 5 (by decide) 98 rfl).trans (hd 5 (by decide))
        clear hd
        exact runq_val (W' := W) (by simp [execOp, d5, go_sem]) (Below.refl _ _) rfl
       case s7 =>
        intro val ρ W hE hz hd hA hx
        have d6 : ρ (.tmp 92) = .tuple #[.agg #[.int .i64 550, .int .i64 0, .int .i64 0, .int .i64 530, .int .i64 20, .int .i64 0], .int .i64 0] := (hA.dep 6 (by decide) 92 rfl).trans (hd 6 (by decide))
        clear hd
        exact runq_val (W' := W) (by simp [execOp, d6, go_sem]) (Below.refl _ _) rfl
       case s8 =>
        intro val ρ W hE hz hd hA hx
        have d6 : ρ (.tmp 92) = .tuple #[.agg #[.int .i64 550, .int .i64 0, .int .i64 0, .int .i64 530, .int .i64 20, .int .i64 0], .int .i64 0] := (hA.dep 6 (by decide) 92 rfl).trans (hd 6 (by decide))
        clear hd
        exact runq_val (W' := W) (by simp [execOp, d6, go_sem]) (Below.refl _ _) rfl
       case s11 =>
        intro val ρ W hE hz hd hA hx
        have d8 : ρ (.tmp 100) = .int .i64 0 := (hA.dep 8 (by decide) 100 rfl).trans (hd 8 (by decide))
        clear hd
        exact runq_val (W' := W) (by simp [execOp, d8, go_sem]) (Below.refl _ _) rfl
       case s1 =>
        intro val ρ W hE hz hd hA hx
        clear hd
        exact runq_val (by simp [execOp, hA.const, go_sem]; exact ⟨rfl, rfl⟩) (by exact xx) ⟨_, rfl, pl_new _ [0, 1] _ _ _ rfl rfl (by decide)⟩
       case s2 =>
        intro val ρ W hE hz hd hA hx
        clear hd
        exact runq_val (by simp [execOp, hA.const, go_sem]; exact ⟨rfl, rfl⟩) (by exact xx) ⟨_, rfl, pl_new _ [2] _ _ _ rfl rfl (by decide)⟩
       case s3 =>
        intro val ρ W hE hz hd hA hx
        obtain ⟨b0, e0, i0⟩ : PL [0, 1] (val 1) W := hd 1 (by decide)
        have d0 : ρ (.tmp 94) = .slice (some ⟨b0, 0, none⟩) 2 2 := (hA.dep 1 (by decide) 94 rfl).trans e0
        rw [e0] at i0
        obtain ⟨b1, e1, i1⟩ : PL [2] (val 2) W := hd 2 (by decide)
        have d1 : ρ (.tmp 95) = .slice (some ⟨b1, 0, none⟩) 1 1 := (hA.dep 2 (by decide) 95 rfl).trans e1
        rw [e1] at i1
        clear hd
        refine runq_val (by simp [execOp, d0, d1, go_sem]; exact ⟨rfl, rfl⟩) (by exact xx) ⟨_, _, _, [(.slice (some ⟨b0, 0, none⟩) 2 2, [0, 1]), (.slice (some ⟨b1, 0, none⟩) 1 1, [2])], rfl, rfl, fin_new _ _ _ _ _ rfl rfl ?_ (by simp)⟩
        intro x hx
        simp only [List.mem_cons, List.not_mem_nil, or_false] at hx
        rcases hx with rfl | rfl
        ·exact i0
        ·exact i1
       case s4 =>
        intro val ρ W hE hz hd hA hx
        obtain ⟨a, n, c, ps, h1, h2, h3⟩ : PF [[0, 1], [2]] (val 3) W := hd 3 (by decide)
        rw [h1] at h3
        have d1 : ρ (.tmp 96) = .slice a n c := (hA.dep 3 (by decide) 96 rfl).trans h1
        clear hd
        refine runq_call 53 _ _ rfl #[.slice a n c] (hA.func _) (by simp [d1]) (fun args W => Try.call53 args W) ((inL_any a n c W).mono ?_)
        rintro e w' ⟨rfl, hb⟩
        exact ⟨_, rfl, hb, a, n, c, ps, rfl, h2, h3.ext hb⟩
       case s5 =>
        intro val ρ W hE hz hd hA hx
        obtain ⟨a, n, c, ps, h1, h2, h3⟩ : PF [[0, 1], [2]] (val 4) W := hd 4 (by decide)
        rw [h1] at h3
        have d1 : ρ (.tmp 97) = .slice a n c := (hA.dep 4 (by decide) 97 rfl).trans h1
        have d0 : ρ (.tmp 93) = .agg #[.int .i64 B3.kd, .int .i64 B3.n, .slice (some ⟨g3, 0, none⟩) B3.bets.length 2, .slice none B3.scr.length 0, .bool B3.fav, .int .i64 B3.car, .int .i64 B3.duty, .int .i64 B3.step] := (hA.dep 0 (by decide) 93 rfl).trans (hd 0 (by decide))
        clear hd
        refine runq_call 34 _ _ rfl #[.agg #[.int .i64 B3.kd, .int .i64 B3.n, .slice (some ⟨g3, 0, none⟩) B3.bets.length 2, .slice none B3.scr.length 0, .bool B3.fav, .int .i64 B3.car, .int .i64 B3.duty, .int .i64 B3.step], .slice a n c] (hA.func _) (by simp [d0, d1]) (fun args W => Try.call34 args W) ((account_any ps _ B3 (some ⟨g3, 0, none⟩) none 2 0 W (HI3.out.ext hE) h3).mono ?_)
        rintro e w' ⟨rfl, hb⟩
        exact ⟨_, rfl, hb, by rw [h2]; exact V8.out⟩
       case s9 =>
        intro val ρ W hE hz hd hA hx
        clear hd
        exact runq_val (W' := W.alloc (.cells #[.int .i64 0, .int .i64 0, .int .i64 0, .int .i64 0, .int .i64 0, .int .i64 0] 48)) (by simp [execOp, go_sem]) xx ⟨_, rfl, hE.size, World.alloc_heap_new W _⟩
       case s10 =>
        intro val ρ W hE hz hd hA hx
        obtain ⟨q, e1, hB, hacc⟩ : PA Z9.heap.size (val 9) W := hd 9 (by decide)
        have dq : ρ (.tmp 18) = .pointer (some ⟨q, 0, none⟩) := (hA.dep 9 (by decide) 18 rfl).trans e1
        have d5 : ρ (.tmp 99) = .agg #[.int .i64 550, .int .i64 0, .int .i64 0, .int .i64 530, .int .i64 20, .int .i64 0] := (hA.dep 7 (by decide) 99 rfl).trans (hd 7 (by decide))
        clear hd
        have c0q := (hacc).c0
        have c1q := (hacc).c1
        have c2q := (hacc).c2
        have c3q := (hacc).c3
        have c4q := (hacc).c4
        have c5q := (hacc).c5
        have cfq := fun o => (hacc).fr o
        have czq := (hacc).lt
        simp only at c0q c1q c2q c3q c4q c5q
        exact runq_skip (W' := ((((((W.setCell ⟨q, 0, none⟩ (.int .i64 550)).setCell ⟨q, 1, none⟩ (.int .i64 0)).setCell ⟨q, 2, none⟩ (.int .i64 0)).setCell ⟨q, 3, none⟩ (.int .i64 530)).setCell ⟨q, 4, none⟩ (.int .i64 20)).setCell ⟨q, 5, none⟩ (.int .i64 0))) (by simp [execOp, dq, d5, go_sem, c0q, c1q, c2q, c3q, c4q, c5q, cfq]) ((((((((Below.refl _ W).setCell hB _).setCell hB _).setCell hB _).setCell hB _).setCell hB _).setCell hB _)) ⟨q, congrArg (fun x => [x]) e1, hB, acc_set6 hacc _ _ _ _ _ _⟩
       case send =>
        intro val Z10 hE hzz hv
        obtain ⟨r0, r1, r2, r3, r4, r5, r6, r7, r8, r9, r10, r11, -⟩ := hv
        have q7 : val 7 = .agg #[.int .i64 550, .int .i64 0, .int .i64 0, .int .i64 530, .int .i64 20, .int .i64 0] := r7
        have q11 : val 11 = .int .i64 0 := r11
        obtain ⟨ug, hq9, hugB, hugA⟩ : ∃ q, [val 9] = [.pointer (some ⟨q, 0, none⟩)] ∧ Z9.heap.size ≤ q ∧ AccAt Z10 q ⟨550, 0, 0, 530, 20, 0⟩ := r10
        have q9 := (List.cons.inj hq9).1
        have UG := Lib.hid hugA
        replace HB1 := Lib.hid (HB1.out.ext hE)
        replace HB2 := Lib.hid (HB2.out.ext hE)
        replace HB3 := Lib.hid (HB3.out.ext hE)
        replace HI1 := Lib.hid (HI1.out.ext hE)
        replace HI2 := Lib.hid (HI2.out.ext hE)
        replace HI3 := Lib.hid (HI3.out.ext hE)
        replace UA := Lib.hid (UA.out.ext hE)
        replace UB := Lib.hid (UB.out.ext hE)
        replace UC := Lib.hid (UC.out.ext hE)
        replace UD := Lib.hid (UD.out.ext hE)
        replace UE := Lib.hid (UE.out.ext hE)
        replace HW := Lib.hid (HW.out.trans' hE)
        simp only [putD, q7, q11, q9]
        go_frame
        clear hE hzz k0 k1 k2 k3 k4 k5 k6 k7 hzk r0 r1 r2 r3 r4 r5 r6 r7 r8 r9 r11 hq9 hugB hugA q7 q11 q9
        go_upto_region 11 with (fail)
        have hbkF := HB1.out
        have k0 := hbkF.c0
        have k1 := hbkF.c1
        have k2 := hbkF.c2
        have k3 := hbkF.c3
        have k4 := hbkF.c4
        have k5 := hbkF.c5
        have k6 := hbkF.c6
        have k7 := hbkF.c7
        have hzk := hbkF.lt
        clear hbkF
        refine wp_region_rove (Z10.heap.size) (Nat.le_refl _)
         [sqV (.agg #[.int .i64 B1.kd, .int .i64 B1.n, .slice (some ⟨g1, 0, none⟩) B1.bets.length 3, .slice none B1.scr.length 0, .bool B1.fav, .int .i64 B1.car, .int .i64 B1.duty, .int .i64 B1.step]), sqW (fun v W => PL [0, 1] v W) (fun _ _ _ h e => PL.ext e h), sqW (fun v W => PL [2] v W) (fun _ _ _ h e => PL.ext e h), sqW (fun v W => PF [[0, 1], [2]] v W) (fun _ _ _ h e => PF.ext e h), sqW (fun v W => PF [[0, 1], [2]] v W) (fun _ _ _ h e => PF.ext e h), sqV (.tuple #[.int .i64 450, .int .i64 0]), sqV (.tuple #[.int .i64 450, .int .i64 0]), sqV (.int .i64 450), sqV (.int .i64 0), sqV (.int .i64 450), sqV (.int .i64 0)]
         [true, false, false, false, false, true, true, true, true, true, true] [false, false, false, false, false, false, false, false, false, false, false] [true, true, true, true, true, true, true, true, true, true, true] [true, true, true, true, true, true, true, true, true, true, true]
         (by kernel_rfl) (by kernel_rfl) (by decide +kernel) (by decide +kernel) (by decide +kernel) rfl ⟨rfl, rfl⟩ ⟨?s0, ?s1, ?s2, ?s3, ?s4, ?s5, ?s6, ?s7, ?s8, ?s9, ?s10, trivial⟩ [some 102, some 103, some 104, some 105, some 106, some 107, some 101, some 108, some 109, some 20, some 21] rfl rfl ?send
        case s0 =>
         intro val ρ W hE hz hd hA hx
         have o0 : ρ (.tmp 1) = .pointer (some ⟨q1, 0, none⟩) := hA.old 1 (by decide)
         have f_k0 := cell_below hE (by simp only; omega) k0
         have f_k1 := cell_below hE (by simp only; omega) k1
         have f_k2 := cell_below hE (by simp only; omega) k2
         have f_k3 := cell_below hE (by simp only; omega) k3
         have f_k4 := cell_below hE (by simp only; omega) k4
         have f_k5 := cell_below hE (by simp only; omega) k5
         have f_k6 := cell_below hE (by simp only; omega) k6
         have f_k7 := cell_below hE (by simp only; omega) k7
         clear hd
         exact runq_val (W' := W) (by simp [execOp, o0, f_k0, f_k1, f_k2, f_k3, f_k4, f_k5, f_k6, f_k7, go_sem]) (Below.refl _ _) rfl
        case s6 =>
         intro val ρ W hE hz hd hA hx
         have d5 : ρ (.tmp 107) = .tuple #[.int .i64 450, .int .i64 0] := (hA.dep 5 (by decide) 107 rfl).trans (hd 5 (by decide))
         clear hd
         exact runq_val (W' := W) (by simp [execOp, d5, go_sem]) (Below.refl _ _) rfl
        case s7 =>
         intro val ρ W hE hz hd hA hx
         have d6 : ρ (.tmp 101) = .tuple #[.int .i64 450, .int .i64 0] := (hA.dep 6 (by decide) 101 rfl).trans (hd 6 (by decide))
         clear hd
         exact runq_val (W' := W) (by simp [execOp, d6, go_sem]) (Below.refl _ _) rfl
        case s8 =>
         intro val ρ W hE hz hd hA hx
         have d6 : ρ (.tmp 101) = .tuple #[.int .i64 450, .int .i64 0] := (hA.dep 6 (by decide) 101 rfl).trans (hd 6 (by decide))
         clear hd
         exact runq_val (W' := W) (by simp [execOp, d6, go_sem]) (Below.refl _ _) rfl
        case s9 =>
         intro val ρ W hE hz hd hA hx
         have d7 : ρ (.tmp 108) = .int .i64 450 := (hA.dep 7 (by decide) 108 rfl).trans (hd 7 (by decide))
         clear hd
         exact runq_val (W' := W) (by simp [execOp, d7, go_sem]) (Below.refl _ _) rfl
        case s10 =>
         intro val ρ W hE hz hd hA hx
         have d8 : ρ (.tmp 109) = .int .i64 0 := (hA.dep 8 (by decide) 109 rfl).trans (hd 8 (by decide))
         clear hd
         exact runq_val (W' := W) (by simp [execOp, d8, go_sem]) (Below.refl _ _) rfl
        case s1 =>
         intro val ρ W hE hz hd hA hx
         clear hd
         exact runq_val (by simp [execOp, hA.const, go_sem]; exact ⟨rfl, rfl⟩) (by exact xx) ⟨_, rfl, pl_new _ [0, 1] _ _ _ rfl rfl (by decide)⟩
        case s2 =>
         intro val ρ W hE hz hd hA hx
         clear hd
         exact runq_val (by simp [execOp, hA.const, go_sem]; exact ⟨rfl, rfl⟩) (by exact xx) ⟨_, rfl, pl_new _ [2] _ _ _ rfl rfl (by decide)⟩
        case s3 =>
         intro val ρ W hE hz hd hA hx
         obtain ⟨b0, e0, i0⟩ : PL [0, 1] (val 1) W := hd 1 (by decide)
         have d0 : ρ (.tmp 103) = .slice (some ⟨b0, 0, none⟩) 2 2 := (hA.dep 1 (by decide) 103 rfl).trans e0
         rw [e0] at i0
         obtain ⟨b1, e1, i1⟩ : PL [2] (val 2) W := hd 2 (by decide)
         have d1 : ρ (.tmp 104) = .slice (some ⟨b1, 0, none⟩) 1 1 := (hA.dep 2 (by decide) 104 rfl).trans e1
         rw [e1] at i1
         clear hd
         refine runq_val (by simp [execOp, d0, d1, go_sem]; exact ⟨rfl, rfl⟩) (by exact xx) ⟨_, _, _, [(.slice (some ⟨b0, 0, none⟩) 2 2, [0, 1]), (.slice (some ⟨b1, 0, none⟩) 1 1, [2])], rfl, rfl, fin_new _ _ _ _ _ rfl rfl ?_ (by simp)⟩
         intro x hx
         simp only [List.mem_cons, List.not_mem_nil, or_false] at hx
         rcases hx with rfl | rfl
         ·exact i0
         ·exact i1
        case s4 =>
         intro val ρ W hE hz hd hA hx
         obtain ⟨a, n, c, ps, h1, h2, h3⟩ : PF [[0, 1], [2]] (val 3) W := hd 3 (by decide)
         rw [h1] at h3
         have d1 : ρ (.tmp 105) = .slice a n c := (hA.dep 3 (by decide) 105 rfl).trans h1
         clear hd
         refine runq_call 53 _ _ rfl #[.slice a n c] (hA.func _) (by simp [d1]) (fun args W => Try.call53 args W) ((inL_any a n c W).mono ?_)
         rintro e w' ⟨rfl, hb⟩
         exact ⟨_, rfl, hb, a, n, c, ps, rfl, h2, h3.ext hb⟩
        case s5 =>
         intro val ρ W hE hz hd hA hx
         obtain ⟨a, n, c, ps, h1, h2, h3⟩ : PF [[0, 1], [2]] (val 4) W := hd 4 (by decide)
         rw [h1] at h3
         have d1 : ρ (.tmp 106) = .slice a n c := (hA.dep 4 (by decide) 106 rfl).trans h1
         have d0 : ρ (.tmp 102) = .agg #[.int .i64 B1.kd, .int .i64 B1.n, .slice (some ⟨g1, 0, none⟩) B1.bets.length 3, .slice none B1.scr.length 0, .bool B1.fav, .int .i64 B1.car, .int .i64 B1.duty, .int .i64 B1.step] := (hA.dep 0 (by decide) 102 rfl).trans (hd 0 (by decide))
         clear hd
         refine runq_call 36 _ _ rfl #[.agg #[.int .i64 B1.kd, .int .i64 B1.n, .slice (some ⟨g1, 0, none⟩) B1.bets.length 3, .slice none B1.scr.length 0, .bool B1.fav, .int .i64 B1.car, .int .i64 B1.duty, .int .i64 B1.step], .slice a n c, .int .i64 0] (hA.func _) (by simp [d0, d1, hA.const]) (fun args W => Try.call36 args W) ((pay_any ps _ 0 B1 (some ⟨g1, 0, none⟩) none 3 0 W (HI1.out.ext hE) h3).mono ?_)
         rintro e w' ⟨rfl, hb⟩
         exact ⟨_, rfl, hb, by rw [h2]; exact V9.out⟩
        case send =>
         intro val Z11 hE hzz hv
         obtain ⟨r0, r1, r2, r3, r4, r5, r6, r7, r8, r9, r10, -⟩ := hv
         have q9 : val 9 = .int .i64 450 := r9
         have q10 : val 10 = .int .i64 0 := r10
         replace HB1 := Lib.hid (HB1.out.ext hE)
         replace HB2 := Lib.hid (HB2.out.ext hE)
         replace HB3 := Lib.hid (HB3.out.ext hE)
         replace HI1 := Lib.hid (HI1.out.ext hE)
         replace HI2 := Lib.hid (HI2.out.ext hE)
         replace HI3 := Lib.hid (HI3.out.ext hE)
         replace UA := Lib.hid (UA.out.ext hE)
         replace UB := Lib.hid (UB.out.ext hE)
         replace UC := Lib.hid (UC.out.ext hE)
         replace UD := Lib.hid (UD.out.ext hE)
         replace UE := Lib.hid (UE.out.ext hE)
         replace UG := Lib.hid (UG.out.ext hE)
         replace HW := Lib.hid (HW.out.trans' hE)
         simp only [putD, q9, q10]
         go_frame
         clear hE hzz k0 k1 k2 k3 k4 k5 k6 k7 hzk r0 r1 r2 r3 r4 r5 r6 r7 r8 r9 r10 q9 q10
         have hbkF := HB1.out
         have k0 := hbkF.c0
         have k1 := hbkF.c1
         have k2 := hbkF.c2
         have k3 := hbkF.c3
         have k4 := hbkF.c4
         have k5 := hbkF.c5
         have k6 := hbkF.c6
         have k7 := hbkF.c7
         have hzk := hbkF.lt
         clear hbkF
         go_wp2_with fail
         refine (favourite_any B1 (some ⟨g1, 0, none⟩) none 3 0 _ HI1.out).mono ?_
         rintro e Z12 ⟨rfl, hE12⟩
         rw [V10.out, V10b.out]
         clear k0 k1 k2 k3 k4 k5 k6 k7 hzk
         replace HB1 := Lib.hid (HB1.out.ext hE12)
         replace HB2 := Lib.hid (HB2.out.ext hE12)
         replace HB3 := Lib.hid (HB3.out.ext hE12)
         replace HI1 := Lib.hid (HI1.out.ext hE12)
         replace HI2 := Lib.hid (HI2.out.ext hE12)
         replace HI3 := Lib.hid (HI3.out.ext hE12)
         replace UA := Lib.hid (UA.out.ext hE12)
         replace UB := Lib.hid (UB.out.ext hE12)
         replace UC := Lib.hid (UC.out.ext hE12)
         replace UD := Lib.hid (UD.out.ext hE12)
         replace UE := Lib.hid (UE.out.ext hE12)
         replace UG := Lib.hid (UG.out.ext hE12)
         replace HW := Lib.hid (HW.out.trans' hE12)
         clear hE12
         have hbkF := HB1.out
         have k0 := hbkF.c0
         have k1 := hbkF.c1
         have k2 := hbkF.c2
         have k3 := hbkF.c3
         have k4 := hbkF.c4
         have k5 := hbkF.c5
         have k6 := hbkF.c6
         have k7 := hbkF.c7
         have hzk := hbkF.lt
         clear hbkF
         go_wp2_with fail
         refine (spread_any B1 (some ⟨g1, 0, none⟩) none 3 0 _ HI1.out).mono ?_
         rintro e Z13 ⟨hE13, rfl⟩
         rw [V11a.out, V11b.out, V10b.out]
         clear k0 k1 k2 k3 k4 k5 k6 k7 hzk
         replace HB1 := Lib.hid (HB1.out.ext hE13)
         replace HB2 := Lib.hid (HB2.out.ext hE13)
         replace HB3 := Lib.hid (HB3.out.ext hE13)
         replace HI1 := Lib.hid (HI1.out.ext hE13)
         replace HI2 := Lib.hid (HI2.out.ext hE13)
         replace HI3 := Lib.hid (HI3.out.ext hE13)
         replace UA := Lib.hid (UA.out.ext hE13)
         replace UB := Lib.hid (UB.out.ext hE13)
         replace UC := Lib.hid (UC.out.ext hE13)
         replace UD := Lib.hid (UD.out.ext hE13)
         replace UE := Lib.hid (UE.out.ext hE13)
         replace UG := Lib.hid (UG.out.ext hE13)
         replace HW := Lib.hid (HW.out.trans' hE13)
         clear hE13
         go_upto_region 14 with (fail)
         obtain ⟨Z14, hZ14⟩ : ∃ Z14, Z14 = Z13.alloc (.cells #[.int .i64 890, .int .i64 900] 56) := ⟨_, rfl⟩
         rw [← hZ14]
         obtain ⟨q5, hq5⟩ : ∃ q5, q5 = Z13.heap.size := ⟨_, rfl⟩
         rw [← hq5]
         have hr : RngAt Z14 q5 890 900 := by rw [hZ14, hq5]; exact World.alloc_heap_new Z13 _
         have hE14 : Ext Z13 Z14 := by rw [hZ14]; exact xx
         have UR := Lib.hid hr
         replace HB1 := Lib.hid (HB1.out.ext hE14)
         replace HB2 := Lib.hid (HB2.out.ext hE14)
         replace HB3 := Lib.hid (HB3.out.ext hE14)
         replace HI1 := Lib.hid (HI1.out.ext hE14)
         replace HI2 := Lib.hid (HI2.out.ext hE14)
         replace HI3 := Lib.hid (HI3.out.ext hE14)
         replace UA := Lib.hid (UA.out.ext hE14)
         replace UB := Lib.hid (UB.out.ext hE14)
         replace UC := Lib.hid (UC.out.ext hE14)
         replace UD := Lib.hid (UD.out.ext hE14)
         replace UE := Lib.hid (UE.out.ext hE14)
         replace UG := Lib.hid (UG.out.ext hE14)
         replace HW := Lib.hid (HW.out.trans' hE14)
         clear hE14 hZ14 hq5 hr
         have hbkF := HB1.out
         have k0 := hbkF.c0
         have k1 := hbkF.c1
         have k2 := hbkF.c2
         have k3 := hbkF.c3
         have k4 := hbkF.c4
         have k5 := hbkF.c5
         have k6 := hbkF.c6
         have k7 := hbkF.c7
         have hzk := hbkF.lt
         clear hbkF
         refine wp_region_rove (Z14.heap.size) (Nat.le_refl _)
          [sqV (.agg #[.int .i64 B1.kd, .int .i64 B1.n, .slice (some ⟨g1, 0, none⟩) B1.bets.length 3, .slice none B1.scr.length 0, .bool B1.fav, .int .i64 B1.car, .int .i64 B1.duty, .int .i64 B1.step]), sqW (fun v W => PL [0] v W) (fun _ _ _ h e => PL.ext e h), sqW (fun v W => PL [2] v W) (fun _ _ _ h e => PL.ext e h), sqW (fun v W => PF [[0], [2]] v W) (fun _ _ _ h e => PF.ext e h), sqW (fun v W => PF [[0], [2]] v W) (fun _ _ _ h e => PF.ext e h), sqV (.int .i64 22), sqV (.int .i64 22)]
          [true, false, false, false, false, true, true] [false, false, false, false, false, false, false] [true, true, true, true, true, true, true] [true, true, true, true, true, true, true]
          (by kernel_rfl) (by kernel_rfl) (by decide +kernel) (by decide +kernel) (by decide +kernel) rfl ⟨rfl, rfl⟩ ⟨?s0, ?s1, ?s2, ?s3, ?s4, ?s5, ?s6, trivial⟩ [some 120, some 121, some 122, some 123, some 124, some 125, some 26] rfl rfl ?send
         case s0 =>
          intro val ρ W hE hz hd hA hx
          have o0 : ρ (.tmp 1) = .pointer (some ⟨q1, 0, none⟩) := hA.old 1 (by decide)
          have f_k0 := cell_below hE (by simp only; omega) k0
          have f_k1 := cell_below hE (by simp only; omega) k1
          have f_k2 := cell_below hE (by simp only; omega) k2
          have f_k3 := cell_below hE (by simp only; omega) k3
          have f_k4 := cell_below hE (by simp only; omega) k4
          have f_k5 := cell_below hE (by simp only; omega) k5
          have f_k6 := cell_below hE (by simp only; omega) k6
          have f_k7 := cell_below hE (by simp only; omega) k7
          clear hd
          exact runq_val (W' := W) (by simp [execOp, o0, f_k0, f_k1, f_k2, f_k3, f_k4, f_k5, f_k6, f_k7, go_sem]) (Below.refl _ _) rfl
         case s6 =>
          intro val ρ W hE hz hd hA hx
          have d5 : ρ (.tmp 125) = .int .i64 22 := (hA.dep 5 (by decide) 125 rfl).trans (hd 5 (by decide))
          clear hd
          exact runq_val (W' := W) (by simp [execOp, d5, go_sem]) (Below.refl _ _) rfl
         case s1 =>
          intro val ρ W hE hz hd hA hx
          clear hd
          exact runq_val (by simp [execOp, hA.const, go_sem]; exact ⟨rfl, rfl⟩) (by exact xx) ⟨_, rfl, pl_new _ [0] _ _ _ rfl rfl (by decide)⟩
         case s2 =>
          intro val ρ W hE hz hd hA hx
          clear hd
          exact runq_val (by simp [execOp, hA.const, go_sem]; exact ⟨rfl, rfl⟩) (by exact xx) ⟨_, rfl, pl_new _ [2] _ _ _ rfl rfl (by decide)⟩
         case s3 =>
          intro val ρ W hE hz hd hA hx
          obtain ⟨b0, e0, i0⟩ : PL [0] (val 1) W := hd 1 (by decide)
          have d0 : ρ (.tmp 121) = .slice (some ⟨b0, 0, none⟩) 1 1 := (hA.dep 1 (by decide) 121 rfl).trans e0
          rw [e0] at i0
          obtain ⟨b1, e1, i1⟩ : PL [2] (val 2) W := hd 2 (by decide)
          have d1 : ρ (.tmp 122) = .slice (some ⟨b1, 0, none⟩) 1 1 := (hA.dep 2 (by decide) 122 rfl).trans e1
          rw [e1] at i1
          clear hd
          refine runq_val (by simp [execOp, d0, d1, go_sem]; exact ⟨rfl, rfl⟩) (by exact xx) ⟨_, _, _, [(.slice (some ⟨b0, 0, none⟩) 1 1, [0]), (.slice (some ⟨b1, 0, none⟩) 1 1, [2])], rfl, rfl, fin_new _ _ _ _ _ rfl rfl ?_ (by simp)⟩
          intro x hx
          simp only [List.mem_cons, List.not_mem_nil, or_false] at hx
          rcases hx with rfl | rfl
          ·exact i0
          ·exact i1
         case s4 =>
          intro val ρ W hE hz hd hA hx
          obtain ⟨a, n, c, ps, h1, h2, h3⟩ : PF [[0], [2]] (val 3) W := hd 3 (by decide)
          rw [h1] at h3
          have d1 : ρ (.tmp 123) = .slice a n c := (hA.dep 3 (by decide) 123 rfl).trans h1
          clear hd
          refine runq_call 53 _ _ rfl #[.slice a n c] (hA.func _) (by simp [d1]) (fun args W => Try.call53 args W) ((inL_any a n c W).mono ?_)
          rintro e w' ⟨rfl, hb⟩
          exact ⟨_, rfl, hb, a, n, c, ps, rfl, h2, h3.ext hb⟩
         case s5 =>
          intro val ρ W hE hz hd hA hx
          obtain ⟨a, n, c, ps, h1, h2, h3⟩ : PF [[0], [2]] (val 4) W := hd 4 (by decide)
          rw [h1] at h3
          have d1 : ρ (.tmp 124) = .slice a n c := (hA.dep 4 (by decide) 124 rfl).trans h1
          have d0 : ρ (.tmp 120) = .agg #[.int .i64 B1.kd, .int .i64 B1.n, .slice (some ⟨g1, 0, none⟩) B1.bets.length 3, .slice none B1.scr.length 0, .bool B1.fav, .int .i64 B1.car, .int .i64 B1.duty, .int .i64 B1.step] := (hA.dep 0 (by decide) 120 rfl).trans (hd 0 (by decide))
          clear hd
          refine runq_call 29 _ _ rfl #[.agg #[.int .i64 B1.kd, .int .i64 B1.n, .slice (some ⟨g1, 0, none⟩) B1.bets.length 3, .slice none B1.scr.length 0, .bool B1.fav, .int .i64 B1.car, .int .i64 B1.duty, .int .i64 B1.step], .slice a n c] (hA.func _) (by simp [d0, d1]) (fun args W => Try.call29 args W) ((checkFinish_any ps _ B1 (some ⟨g1, 0, none⟩) none 3 0 W (HI1.out.ext hE) h3).mono ?_)
          rintro e w' ⟨rfl, hb⟩
          exact ⟨_, rfl, hb, by rw [h2, V12.out]; rfl⟩
         case send =>
          intro val Z15 hE hzz hv
          obtain ⟨r0, r1, r2, r3, r4, r5, r6, -⟩ := hv
          have q6 : val 6 = .int .i64 22 := r6
          replace HB1 := Lib.hid (HB1.out.ext hE)
          replace HB2 := Lib.hid (HB2.out.ext hE)
          replace HB3 := Lib.hid (HB3.out.ext hE)
          replace HI1 := Lib.hid (HI1.out.ext hE)
          replace HI2 := Lib.hid (HI2.out.ext hE)
          replace HI3 := Lib.hid (HI3.out.ext hE)
          replace UA := Lib.hid (UA.out.ext hE)
          replace UB := Lib.hid (UB.out.ext hE)
          replace UC := Lib.hid (UC.out.ext hE)
          replace UD := Lib.hid (UD.out.ext hE)
          replace UE := Lib.hid (UE.out.ext hE)
          replace UG := Lib.hid (UG.out.ext hE)
          replace UR := Lib.hid (UR.out.ext hE)
          replace HW := Lib.hid (HW.out.trans' hE)
          simp only [putD, q6]
          go_frame
          clear hE hzz k0 k1 k2 k3 k4 k5 k6 k7 hzk r0 r1 r2 r3 r4 r5 r6 q6
          have aC0 := UC.out.c0
          have aC1 := UC.out.c1
          have aC2 := UC.out.c2
          have aC3 := UC.out.c3
          have aC4 := UC.out.c4
          have aC5 := UC.out.c5
          have zC := UC.out.lt
          have qC := fun W => acc_eql ⟨1000, 0, 100, 890, 10, 0⟩ W
          have aD0 := UD.out.c0
          have aD1 := UD.out.c1
          have aD2 := UD.out.c2
          have aD3 := UD.out.c3
          have aD4 := UD.out.c4
          have aD5 := UD.out.c5
          have zD := UD.out.lt
          have qD := fun W => acc_eql ⟨1000, 0, 100, 840, 60, 0⟩ W
          have aG0 := UG.out.c0
          have aG1 := UG.out.c1
          have aG2 := UG.out.c2
          have aG3 := UG.out.c3
          have aG4 := UG.out.c4
          have aG5 := UG.out.c5
          have zG := UG.out.lt
          have qG := fun W => acc_eql ⟨550, 0, 0, 530, 20, 0⟩ W
          have aR0 := UR.out.c0
          have aR1 := UR.out.c1
          have zR := UR.out.lt
          have qR : ∀ W, (binOp .eql 56 (.agg #[.int .i64 890, .int .i64 900]) (.agg #[.int .i64 890, .int .i64 900])).run Try.prog W = .ok (.bool true) W := fun W => by have := eql_rng W 890 900 890 900; simpa using this
          simp only [accV, accC] at aC0 qC qD qG aC1 aC2 aC3 aC4 aC5 aD0 aD1 aD2 aD3 aD4 aD5 aG0 aG1 aG2 aG3 aG4 aG5




          go_wp2_with fail
          refine callW (W0 := Z15) (g := ⟨Z15, Below.refl _ _⟩) xx (divL_any 0 (-1) 90 _) fun g1 hgr => ?_
          clear hgr
          go_wp2_with fail
          refine callW (W0 := Z15) (g := g1) xx (divL_any 1 (-1) 150 _) fun g2 hgr => ?_
          clear hgr
          go_wp2_with fail
          refine callW (W0 := Z15) (g := g2) xx (dvdsL_any [((0, -1), 90), ((1, -1), 150)] [((0, -1), 90), ((1, -1), 150)] _ _ _ (UA.out.ext xx) (rows_new _ 3 2 _ _ _ _ rfl (by simp [divRow]) (by simp [divRow]) rfl (by omega))) fun g3 hgr => ?_
          clear hgr
          rw [show decide (([((0, -1), 90), ((1, -1), 150)] : List Dvd) = [((0, -1), 90), ((1, -1), 150)]) = true from rfl]
          go_wp2_with fail
          refine callW (W0 := Z15) (g := g3) xx (divL_any 0 (-1) 60 _) fun g4 hgr => ?_
          clear hgr
          go_wp2_with fail
          refine callW (W0 := Z15) (g := g4) xx (divL_any 1 (-1) 100 _) fun g5 hgr => ?_
          clear hgr
          go_wp2_with fail
          refine callW (W0 := Z15) (g := g5) xx (divL_any 2 (-1) 150 _) fun g6 hgr => ?_
          clear hgr
          go_wp2_with fail
          refine callW (W0 := Z15) (g := g6) xx (dvdsL_any [((0, -1), 60), ((1, -1), 100), ((2, -1), 150)] [((0, -1), 60), ((1, -1), 100), ((2, -1), 150)] _ _ _ (UB.out.ext xx) (rows_new _ 3 3 _ _ _ _ rfl (by simp [divRow]) (by simp [divRow]) rfl (by omega))) fun g7 hgr => ?_
          clear hgr
          rw [show decide (([((0, -1), 60), ((1, -1), 100), ((2, -1), 150)] : List Dvd) = [((0, -1), 60), ((1, -1), 100), ((2, -1), 150)]) = true from rfl]
          go_wp2_with fail
          refine callW (W0 := Z15) (g := g7) xx (twosL_any [(2, 0)] [(2, 0)] _ _ _ (UE.out.ext xx) (rows_new _ 2 1 _ _ _ _ rfl (by simp [twoRow]) (by simp [twoRow]) rfl (by omega))) fun g8 hgr => ?_
          clear hgr
          rw [show decide (([(2, 0)] : List Spt) = [(2, 0)]) = true from rfl]
          go_wp2_with fail
          go_ret
          exact ⟨rfl, HW.out.trans' (grow_below Z15 _)⟩
end Go.Proofs.Ytphajlldghcnnaa
