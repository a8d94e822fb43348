/-
 The walks of within, isRunner, single, odd, rising and CheckBook: the error of a book.
 Plain: who runs, the favourite, what a bet is on, the units on each spot, and the account as far as the net.
 Maps whose keys are read by one law: a lookup, a store, a deletion, and a range over them, as operations on a list of entries.
-/
import Derived.Test.YtphajlldghcnnaaPc
import Derived.Test.YtphajlldghcnnaaPa
namespace Go.Proofs.Ytphajlldghcnnaa
open Go.RowKit Go.Shelf
set_option maxHeartbeats 400000 in
theorem within1_any (n lo hi : Int) (a b : Addr) (w : World) (h1 : w.cell? a = some (.int .i64 lo)) (h2 : w.cell? b = some (.int .i64 hi)) :
  Calls Try.prog 87 #[.int .i64 n, .pointer (some a), .pointer (some b)] w fun e w' => e = .returned (.bool (decide (n < lo) || decide (hi < n))) ∧ Ext w w' := by
 go_enter Try.func87, Try.ntmps87
 go_wp2
 all_goals
  go_ret
  exact ⟨ret_bool (by simp [*]), Below.refl _ _⟩
set_option maxHeartbeats 400000 in
theorem within_any (lo hi : Int) (v : Value) (l : List Int) (w : World) (hv : IsInts w .i64 v l) :
  Calls Try.prog 60 #[.int .i64 lo, .int .i64 hi, v] w fun e w' => e = .returned (.bool (l.all (inR lo hi))) ∧ Ext w w' := by
 obtain ⟨sa, cap, rfl, h1, h2, h3⟩ := hv.spec
 have H3 := Lib.hid h3
 clear h3 hv
 go_enter Try.func60, Try.ntmps60
 go_wp2_with fail
 have hE : Ext w ((w.alloc (.cells #[.int .i64 lo] 2)).alloc (.cells #[.int .i64 hi] 2)) := ((Below.refl _ _).alloc (Nat.le_refl _) _).alloc (by simp) _
 have e1 : ((w.alloc (.cells #[.int .i64 lo] 2)).alloc (.cells #[.int .i64 hi] 2)).cell? ⟨w.heap.size, 0, none⟩ = some (.int .i64 lo) := by simp [go_sem]
 have e2 : ((w.alloc (.cells #[.int .i64 lo] 2)).alloc (.cells #[.int .i64 hi] 2)).cell? ⟨w.heap.size + 1, 0, none⟩ = some (.int .i64 hi) := by simp [go_sem]
 refine (containsFuncI64 l sa cap 87 #[.pointer (some ⟨w.heap.size, 0, none⟩), .pointer (some ⟨w.heap.size + 1, 0, none⟩)] (fun n => decide (n < lo) || decide (hi < n)) _ (by omega) (H3.out.imp id fun ⟨b, off, e, hc⟩ => ⟨b, off, e, fun i hi => cell_ext hE (hc i hi)⟩)
  (fun args W => Try.call87 args W) (fun x _ W hW => within1_any x lo hi _ _ W (cell_ext hW e1) (cell_ext hW e2))).mono ?_
 rintro e W' ⟨rfl, hb⟩
 clear e1 e2
 go_wp2
 all_goals
  go_ret
  refine ⟨ret_bool (a := !l.any fun n => decide (n < lo) || decide (hi < n)) ?_, hE.trans' hb⟩
  exact any_inR lo hi l
theorem isInts_one {w : World} {b cap : Nat} {x : Int} (h2 : 1 ≤ cap) (h3 : cap ≤ 9223372036854775807) (c0 : w.cell? ⟨b, 0, none⟩ = some (.int .i64 x)) :
  IsInts w .i64 (.slice (some ⟨b, 0, none⟩) 1 cap) [x] := by
 refine IsInts.mk (l := [x]) (off := 0) (by simpa using h2) h3 fun i hi => ?_
 match i, hi with
 | 0, _ => simpa using c0
set_option maxHeartbeats 400000 in
theorem isRunner1_any (r n : Int) (p : Nat) (w : World) (h1 : w.cell? ⟨p, 1, none⟩ = some (.int .i64 n)) :
  Calls Try.prog 82 #[.int .i64 r, .pointer (some ⟨p, 0, none⟩)] w fun e w' => e = .returned (.bool (decide (r < 0) || decide (n ≤ r))) ∧ Ext w w' := by
 go_enter Try.func82, Try.ntmps82
 go_wp2
 all_goals
  go_ret
  exact ⟨ret_bool (by simp [*]), Below.refl _ _⟩
set_option maxRecDepth 100000 in
set_option maxHeartbeats 1000000 in
theorem isRunner_any (b : Bk) (ba sa : Option Addr) (bcap scap : Nat) (v : Value) (l : List Int) (w : World) (hv : IsInts w .i64 v l) :
  Calls Try.prog 56 #[.agg #[.int .i64 b.kd, .int .i64 b.n, .slice ba b.bets.length bcap, .slice sa b.scr.length scap, .bool b.fav, .int .i64 b.car, .int .i64 b.duty, .int .i64 b.step], v] w fun e w' => e = .returned (.bool (l.all (isRun b.n))) ∧ Ext w w' := by
 obtain ⟨la, cap, rfl, h1, h2, h3⟩ := hv.spec
 have H3 := Lib.hid h3
 clear h3 hv
 go_enter Try.func56, Try.ntmps56
 go_upto_region 1 with (fail)
 obtain ⟨W0, hW0⟩ : ∃ W0, W0 = w.alloc (.cells #[.int .i64 b.kd, .int .i64 b.n, .slice ba b.bets.length bcap, .slice sa b.scr.length scap, .bool b.fav, .int .i64 b.car, .int .i64 b.duty, .int .i64 b.step] 25) := ⟨_, rfl⟩
 have hE : Ext w W0 := by rw [hW0]; exact xx
 have e1 : W0.cell? ⟨w.heap.size, 1, none⟩ = some (.int .i64 b.n) := by rw [hW0]; simp [go_sem]
 rw [← hW0]
 clear hW0
 go_wp2_with fail
 refine (containsFuncInt l la cap 82 #[.pointer (some ⟨w.heap.size, 0, none⟩)] (fun r => decide (r < 0) || decide (b.n ≤ r)) _ (by omega) (H3.out.imp id fun ⟨b, off, e, hc⟩ => ⟨b, off, e, fun i hi => cell_ext hE (hc i hi)⟩)
  (fun args W => Try.call82 args W) (fun x _ W hW => isRunner1_any x b.n _ W (cell_ext hW e1))).mono ?_
 rintro e W' ⟨rfl, hb⟩
 clear e1
 go_wp2
 all_goals
  go_ret
  refine ⟨ret_bool (a := !l.any fun r => decide (r < 0) || decide (b.n ≤ r)) ?_, hE.trans' hb⟩
  exact any_isRun b.n l
set_option maxRecDepth 100000 in
set_option maxHeartbeats 1000000 in
theorem single_any (b : Bk) (ba sa : Option Addr) (bcap scap : Nat) (w : World) :
  Calls Try.prog 89 #[.agg #[.int .i64 b.kd, .int .i64 b.n, .slice ba b.bets.length bcap, .slice sa b.scr.length scap, .bool b.fav, .int .i64 b.car, .int .i64 b.duty, .int .i64 b.step]] w fun e w' => e = .returned (.bool (single b)) ∧ Ext w w' := by
 go_enter Try.func89, Try.ntmps89
 go_wp2
 all_goals
  go_ret
  exact ⟨ret_bool (by unfold single; first | (simp [*]; done) | (by_cases e0 : b.kd = 0 <;> by_cases e1 : b.kd = 1 <;> simp_all)), by exact xx⟩
theorem all_one {α : Type} (p : α → Bool) (x : α) : [x].all p = p x := by simp
set_option maxRecDepth 100000 in
set_option maxHeartbeats 1000000 in
theorem odd_any (b : Bk) (ba sa : Option Addr) (bcap scap : Nat) (x : PB) (w : World) :
  Calls Try.prog 63 #[.agg #[.int .i64 b.kd, .int .i64 b.n, .slice ba b.bets.length bcap, .slice sa b.scr.length scap, .bool b.fav, .int .i64 b.car, .int .i64 b.duty, .int .i64 b.step], .agg #[.int .i64 x.f, .int .i64 x.s, .int .i64 x.u]] w fun e w' => e = .returned (.bool (oddB b x)) ∧ Ext w w' := by
 go_enter Try.func63, Try.ntmps63
 go_upto_region 1 with (fail)
 obtain ⟨W0, hW0⟩ : ∃ W0, W0 = (w.alloc (.cells #[.int .i64 b.kd, .int .i64 b.n, .slice ba b.bets.length bcap, .slice sa b.scr.length scap, .bool b.fav, .int .i64 b.car, .int .i64 b.duty, .int .i64 b.step] 25)).alloc (.cells #[.int .i64 x.f, .int .i64 x.s, .int .i64 x.u] 62) := ⟨_, rfl⟩
 have hE : Ext w W0 := by rw [hW0]; exact xx
 have k0 : W0.cell? ⟨w.heap.size, 0, none⟩ = some (.int .i64 b.kd) := by rw [hW0]; simp [go_sem]
 have k1 : W0.cell? ⟨w.heap.size, 1, none⟩ = some (.int .i64 b.n) := by rw [hW0]; simp [go_sem]
 have k2 : W0.cell? ⟨w.heap.size, 2, none⟩ = some (.slice ba b.bets.length bcap) := by rw [hW0]; simp [go_sem]
 have k3 : W0.cell? ⟨w.heap.size, 3, none⟩ = some (.slice sa b.scr.length scap) := by rw [hW0]; simp [go_sem]
 have k4 : W0.cell? ⟨w.heap.size, 4, none⟩ = some (.bool b.fav) := by rw [hW0]; simp [go_sem]
 have k5 : W0.cell? ⟨w.heap.size, 5, none⟩ = some (.int .i64 b.car) := by rw [hW0]; simp [go_sem]
 have k6 : W0.cell? ⟨w.heap.size, 6, none⟩ = some (.int .i64 b.duty) := by rw [hW0]; simp [go_sem]
 have k7 : W0.cell? ⟨w.heap.size, 7, none⟩ = some (.int .i64 b.step) := by rw [hW0]; simp [go_sem]
 have c0 : W0.cell? ⟨w.heap.size + 1, 0, none⟩ = some (.int .i64 x.f) := by rw [hW0]; simp [go_sem]
 have c1 : W0.cell? ⟨w.heap.size + 1, 1, none⟩ = some (.int .i64 x.s) := by rw [hW0]; simp [go_sem]
 have c2 : W0.cell? ⟨w.heap.size + 1, 2, none⟩ = some (.int .i64 x.u) := by rw [hW0]; simp [go_sem]
 have hz1 : w.heap.size + 1 < W0.heap.size := World.block_lt_of_cell? _ _ c0
 have hz : w.heap.size < W0.heap.size := by omega
 have HW := Lib.hid hE
 rw [← hW0]
 clear hW0 hE




 go_wp2_with fail
 refine callW (W0 := W0) (g := ⟨W0, Below.refl _ _⟩) xx (within_any 1 1000 _ [x.u] _ (isInts_one (by omega) (by omega) (by simp [go_sem]))) fun g1 hgr => ?_
 clear hgr
 rw [all_one]
 cases h1 : inR 1 1000 x.u
 ·go_wp2_with fail
  go_ret
  exact ⟨ret_bool (by unfold oddB; rw [if_pos (.inl h1)]), HW.out.trans' (grow_below W0 _)⟩
 go_wp2_with fail
 refine callW (W0 := W0) (g := g1) xx (isRunner_any b ba sa bcap scap _ [x.f] _ (isInts_one (by omega) (by omega) (by simp [go_sem]))) fun g2 hgr => ?_
 clear hgr
 rw [all_one]
 cases h2 : isRun b.n x.f
 ·go_wp2_with fail
  go_ret
  exact ⟨ret_bool (by unfold oddB; rw [if_pos (.inr h2)]), HW.out.trans' (grow_below W0 _)⟩
 have h12 : ¬ (inR 1 1000 x.u = false ∨ isRun b.n x.f = false) := by rw [h1, h2]; simp
 have H12 := Lib.hid h12
 clear h1 h2 h12
 go_wp2_with fail
 refine callW (W0 := W0) (g := g2) xx (single_any b ba sa bcap scap _) fun g3 hgr => ?_
 clear hgr
 cases h3 : single b
 ·have H3 := Lib.hid (show ¬ single b = true by rw [h3]; simp)
  clear h3
  go_wp2_with fail
  refine callW (W0 := W0) (g := g3) xx (isRunner_any b ba sa bcap scap _ [x.s] _ (isInts_one (by omega) (by omega) (by simp [go_sem]))) fun g4 hgr => ?_
  clear hgr
  rw [all_one]
  cases h4 : isRun b.n x.s
  ·go_wp2_with fail
   go_ret
   exact ⟨ret_bool (by unfold oddB; rw [if_neg H12.out, if_neg H3.out, if_pos (.inl h4)]), HW.out.trans' (grow_below W0 _)⟩
  by_cases h5 : x.f = x.s
  ·have e1 : (x.f == x.s) = true := by simpa using h5
   have H5 := Lib.hid h5
   clear h5
   go_wp2_with fail
   go_ret
   exact ⟨ret_bool (by unfold oddB; rw [if_neg H12.out, if_neg H3.out, if_pos (.inr H5.out)]), HW.out.trans' (grow_below W0 _)⟩
  ·have e1 : (x.f == x.s) = false := by simpa using h5
   have H45 := Lib.hid (show ¬ (isRun b.n x.s = false ∨ x.f = x.s) by rw [h4]; simp [h5])
   clear h4 h5
   go_wp2_with fail
   all_goals
    go_ret
    refine ⟨ret_bool ?_, HW.out.trans' (grow_below W0 _)⟩
    unfold oddB
    rw [if_neg H12.out, if_neg H3.out, if_neg H45.out]
    first | (simp [*]; done) | (by_cases e0 : b.kd = 3 <;> simp_all)
 ·go_wp2_with fail
  all_goals
   go_ret
   refine ⟨ret_bool ?_, HW.out.trans' (grow_below W0 _)⟩
   unfold oddB
   rw [if_neg H12.out, if_pos h3]
   first | rfl | (simp [*]; done) | (by_cases e0 : x.s = -1 <;> simp_all)
set_option maxRecDepth 100000 in
set_option maxHeartbeats 1000000 in
theorem rising_any (l : List Int) (v : Value) (w : World) (hv : IsInts w .i64 v l) :
  Calls Try.prog 64 #[v] w fun e w' => e = .returned (.bool (rising l)) ∧ Ext w w' := by
 obtain ⟨la, cap, rfl, h1, h2, h3⟩ := hv.spec
 have H3 := Lib.hid h3
 clear h3 hv
 go_enter Try.func64, Try.ntmps64
 go_wp2_with fail
 go_loopw [3, 6] (fun _ iv W => ∃ k : Nat, k ≤ l.length ∧ iv = .int .i64 k ∧ (∀ i, i < k → flat l i = false) ∧ Ext w W) (fun _ iv _ => l.length - (intOf iv).toNat)
 case atStart => exact ⟨0, by omega, rfl, fun i hi => by omega, Below.refl _ _⟩
 case round =>
  obtain ⟨k, hk, rfl, hno, hE⟩ := hrel
  have HNO := Lib.hid hno
  have HE := Lib.hid hE
  clear hno
  by_cases hlt : k < l.length
  ·have hki : (k : Int) < (l.length : Int) := by omega
   rcases H3.out with h0 | ⟨b, off, rfl, hc⟩
   ·rw [h0] at hlt; simp at hlt
   have HC := Lib.hid hc
   clear hc H3
   by_cases hk0 : k = 0
   ·have hd : decide ((0 : Int) < (k : Int)) = false := decide_eq_false (by omega)
    have hf : flat l k = false := by unfold flat; rw [decide_eq_false (by omega)]; rfl
    have HF := Lib.hid hf
    clear hE hf
    go_wp2_with fail
    go_quiet (fail)
    go_wp2_with fail
    go_roundw
    case rel =>
     refine ⟨k + 1, by omega, by go_num, fun i hi => ?_, HE.out.trans' xx⟩
     by_cases e : i = k
     ·rw [e]; exact HF.out
     ·exact HNO.out i (by omega)
    case measure => simp [intOf]; omega
   ·have hd : decide ((0 : Int) < (k : Int)) = true := decide_eq_true (by omega)
    obtain ⟨p, rfl⟩ : ∃ p, k = p + 1 := ⟨k - 1, by omega⟩
    have hw1 : IntKind.i64.wrap (((p + 1 : Nat) : Int) - 1) = (p : Int) := by rw [IntWalk.i64_in _ (by omega)]; omega
    have hpi : (p : Int) < (l.length : Int) := by omega
    have c0 := cell_ext hE (HC.out p (by omega))
    have c1 := cell_ext hE (HC.out (p + 1) hlt)
    rw [gt_get] at c0 c1
    obtain ⟨x, hx⟩ : ∃ x, x = gt l p := ⟨_, rfl⟩
    obtain ⟨y, hy⟩ : ∃ y, y = gt l (p + 1) := ⟨_, rfl⟩
    rw [← hx] at c0
    rw [← hy] at c1
    have hfl : flat l (p + 1) = decide (y ≤ x) := by unfold flat; rw [decide_eq_true (by omega), Bool.true_and, Nat.add_sub_cancel, hx, hy]
    have HF := Lib.hid hfl
    clear hE hfl hx hy
    cases hyx : decide (y ≤ x)
    ·go_wp2_with fail
     go_quiet (fail)
     go_wp2_with fail
     go_roundw
     case rel =>
      refine ⟨p + 1 + 1, by omega, by go_num, fun i hi => ?_, HE.out.trans' xx⟩
      by_cases e : i = p + 1
      ·rw [e, HF.out]; exact hyx
      ·exact HNO.out i (by omega)
     case measure => simp [intOf]; omega
    ·go_wp2_with fail
     go_quiet (fail)
     go_wp2_with fail
     go_ret
     refine ⟨ret_bool ?_, HE.out.trans' xx⟩
     unfold rising
     rw [show (List.range l.length).any (flat l) = true from List.any_eq_true.2 ⟨p + 1, List.mem_range.2 hlt, by rw [HF.out]; exact hyx⟩]
     rfl
  ·have hki : ¬ ((k : Int) < (l.length : Int)) := by omega
   go_wp2_with fail
   go_ret
   refine ⟨ret_bool ?_, HE.out⟩
   unfold rising
   rw [show (List.range l.length).any (flat l) = false from List.any_eq_false.2 fun i hi => by rw [HNO.out i (by have := List.mem_range.1 hi; omega)]; simp]
   rfl
set_option maxRecDepth 100000 in
set_option maxHeartbeats 1000000 in
theorem checkBook1_any (b : Bk) (ba sa : Option Addr) (bcap scap : Nat) (x : PB) (p : Nat) (w : World) (h : BookAt w p b ba bcap sa scap) :
  Calls Try.prog 62 #[.agg #[.int .i64 x.f, .int .i64 x.s, .int .i64 x.u], .pointer (some ⟨p, 0, none⟩)] w fun e w' => e = .returned (.bool (oddB b x)) ∧ Ext w w' := by
 have k0 := (h).c0
 have k1 := (h).c1
 have k2 := (h).c2
 have k3 := (h).c3
 have k4 := (h).c4
 have k5 := (h).c5
 have k6 := (h).c6
 have k7 := (h).c7
 have hz := (h).lt
 clear h
 go_enter Try.func62, Try.ntmps62
 go_wp2_with fail
 refine (odd_any b ba sa bcap scap x _).mono ?_
 rintro e W' ⟨rfl, hb⟩
 have HB := Lib.hid hb
 clear k0 k1 k2 k3 k4 k5 k6 k7 hb
 go_wp2_with fail
 go_ret
 exact ⟨rfl, Ext.trans' (by exact xx) HB.out⟩
set_option maxRecDepth 100000 in
set_option maxHeartbeats 2000000 in
theorem checkBook_any (b : Bk) (ba sa : Option Addr) (bcap scap : Nat) (w : World) (hv : IsBook w b ba bcap sa scap) :
  Calls Try.prog 23 #[.agg #[.int .i64 b.kd, .int .i64 b.n, .slice ba b.bets.length bcap, .slice sa b.scr.length scap, .bool b.fav, .int .i64 b.car, .int .i64 b.duty, .int .i64 b.step]] w fun e w' => e = .returned (.int .i64 (bkErr b)) ∧ Ext w w' := by
 obtain ⟨⟨q1, q2⟩, q3, q4⟩ := hv.caps
 have HV := Lib.hid hv
 clear hv
 go_enter Try.func23, Try.ntmps23
 go_upto_region 1 with (fail)
 obtain ⟨W0, hW0⟩ : ∃ W0, W0 = w.alloc (.cells #[.int .i64 b.kd, .int .i64 b.n, .slice ba b.bets.length bcap, .slice sa b.scr.length scap, .bool b.fav, .int .i64 b.car, .int .i64 b.duty, .int .i64 b.step] 25) := ⟨_, rfl⟩
 have hE : Ext w W0 := by rw [hW0]; exact xx
 have k0 : W0.cell? ⟨w.heap.size, 0, none⟩ = some (.int .i64 b.kd) := by rw [hW0]; simp [go_sem]
 have k1 : W0.cell? ⟨w.heap.size, 1, none⟩ = some (.int .i64 b.n) := by rw [hW0]; simp [go_sem]
 have k2 : W0.cell? ⟨w.heap.size, 2, none⟩ = some (.slice ba b.bets.length bcap) := by rw [hW0]; simp [go_sem]
 have k3 : W0.cell? ⟨w.heap.size, 3, none⟩ = some (.slice sa b.scr.length scap) := by rw [hW0]; simp [go_sem]
 have k4 : W0.cell? ⟨w.heap.size, 4, none⟩ = some (.bool b.fav) := by rw [hW0]; simp [go_sem]
 have k5 : W0.cell? ⟨w.heap.size, 5, none⟩ = some (.int .i64 b.car) := by rw [hW0]; simp [go_sem]
 have k6 : W0.cell? ⟨w.heap.size, 6, none⟩ = some (.int .i64 b.duty) := by rw [hW0]; simp [go_sem]
 have k7 : W0.cell? ⟨w.heap.size, 7, none⟩ = some (.int .i64 b.step) := by rw [hW0]; simp [go_sem]
 have hz : w.heap.size < W0.heap.size := World.block_lt_of_cell? _ _ k0
 have HS := Lib.hid (HV.out.ext hE)
 have HW := Lib.hid hE
 rw [← hW0]
 clear hW0 HV
 have HB : Hid (BookAt W0 w.heap.size b ba bcap sa scap) := Lib.hid ⟨k0, k1, k2, k3, k4, k5, k6, k7⟩
 clear hE




 go_wp2_with fail
 refine callW (W0 := W0) (g := ⟨W0, Below.refl _ _⟩) xx (within_any 0 3 _ [b.kd] _ (isInts_one (by omega) (by omega) (by simp [go_sem]))) fun g1 hgr => ?_
 clear hgr
 rw [all_one]
 cases h1 : inR 0 3 b.kd
 ·go_wp2_with fail
  go_ret
  exact ⟨ret_int (by unfold bkErr; rw [if_pos h1]), HW.out.trans' (grow_below W0 _)⟩
 have H1 := Lib.hid (show ¬ inR 0 3 b.kd = false by rw [h1]; simp)
 clear h1
 go_wp2_with fail
 refine callW (W0 := W0) (g := g1) xx (within_any 2 8 _ [b.n] _ (isInts_one (by omega) (by omega) (by simp [go_sem]))) fun g2 hgr => ?_
 clear hgr
 rw [all_one]
 cases h2 : inR 2 8 b.n
 ·go_wp2_with fail
  go_ret
  exact ⟨ret_int (by unfold bkErr; rw [if_neg H1.out, if_pos (.inl h2)]), HW.out.trans' (grow_below W0 _)⟩
 go_wp2_with fail
 refine callW (W0 := W0) (g := g2) xx (within_any 0 1000000 _ [b.car] _ (isInts_one (by omega) (by omega) (by simp [go_sem]))) fun g3 hgr => ?_
 clear hgr
 rw [all_one]
 cases h3 : inR 0 1000000 b.car
 ·go_wp2_with fail
  go_ret
  exact ⟨ret_int (by unfold bkErr; rw [if_neg H1.out, if_pos (.inr (.inl h3))]), HW.out.trans' (grow_below W0 _)⟩
 go_wp2_with fail
 refine callW (W0 := W0) (g := g3) xx (within_any 0 500 _ [b.duty] _ (isInts_one (by omega) (by omega) (by simp [go_sem]))) fun g4 hgr => ?_
 clear hgr
 rw [all_one]
 cases h4 : inR 0 500 b.duty
 ·go_wp2_with fail
  go_ret
  exact ⟨ret_int (by unfold bkErr; rw [if_neg H1.out, if_pos (.inr (.inr (.inl h4)))]), HW.out.trans' (grow_below W0 _)⟩
 go_wp2_with fail
 refine callW (W0 := W0) (g := g4) xx (within_any 1 100 _ [b.step] _ (isInts_one (by omega) (by omega) (by simp [go_sem]))) fun g5 hgr => ?_
 clear hgr
 rw [all_one]
 cases h5 : inR 1 100 b.step
 ·go_wp2_with fail
  go_ret
  exact ⟨ret_int (by unfold bkErr; rw [if_neg H1.out, if_pos (.inr (.inr (.inr h5)))]), HW.out.trans' (grow_below W0 _)⟩
 have hn := inR_iff.1 h2
 have H2 := Lib.hid (show ¬ (inR 2 8 b.n = false ∨ inR 0 1000000 b.car = false ∨ inR 0 500 b.duty = false ∨ inR 1 100 b.step = false) by rw [h2, h3, h4, h5]; simp)
 clear h2 h3 h4 h5
 by_cases h6 : 100 < b.bets.length
 ·have h6i : (100 : Int) < (b.bets.length : Int) := by omega
  have H6 := Lib.hid h6
  clear h6
  go_wp2_with fail
  go_ret
  exact ⟨ret_int (by unfold bkErr; rw [if_neg H1.out, if_neg H2.out, if_pos H6.out]), HW.out.trans' (grow_below W0 _)⟩
 have h6i : ¬ ((100 : Int) < (b.bets.length : Int)) := by omega
 have H6 := Lib.hid h6
 clear h6
 obtain ⟨_, _, e0, -, -, hbc⟩ := HS.out.bets.spec
 cases e0
 have HBC := Lib.hid hbc
 clear hbc
 go_wp2_with fail
 refine callW (W0 := W0) (g := g5) xx (containsFuncBet b.bets ba bcap 62 #[.pointer (some ⟨w.heap.size, 0, none⟩)] (oddB b) _ (by omega) (HBC.out.imp id fun ⟨b', off, e, hc⟩ => ⟨b', off, e, fun i hi => ⟨cell_ext xx (hc i hi).1, cell_ext xx (hc i hi).2.1, cell_ext xx (hc i hi).2.2⟩⟩) (fun args W => Try.call62 args W) (fun x _ W hW => checkBook1_any b ba sa bcap scap x _ W (HB.out.ext (Ext.trans' xx hW)))) fun g6 hgr => ?_
 clear hgr
 cases h7 : b.bets.any (oddB b)
 rotate_left
 ·go_wp2_with fail
  go_ret
  exact ⟨ret_int (by unfold bkErr; rw [if_neg H1.out, if_neg H2.out, if_neg H6.out, if_pos h7]), HW.out.trans' (grow_below W0 _)⟩
 have H7 := Lib.hid (show ¬ b.bets.any (oddB b) = true by rw [h7]; simp)
 clear h7
 have hwn : IntKind.i64.wrap (b.n - 2) = b.n - 2 := IntWalk.i64_in _ (by omega)
 by_cases h8 : b.n - 2 < (b.scr.length : Int)
 ·have H8 := Lib.hid h8
  go_wp2_with fail
  go_ret
  exact ⟨ret_int (by unfold bkErr; rw [if_neg H1.out, if_neg H2.out, if_neg H6.out, if_neg H7.out, if_pos (.inl H8.out)]), HW.out.trans' (grow_below W0 _)⟩
 have hd8 : decide (b.n - 2 < (b.scr.length : Int)) = false := decide_eq_false h8
 have h8b : (b.scr.length : Int) ≤ b.n - 2 := by omega
 go_wp2_with fail
 refine callW (W0 := W0) (g := g6) xx (isRunner_any b ba sa bcap scap _ b.scr _ (HS.out.ext xx).scr) fun g7 hgr => ?_
 clear hgr
 cases h9 : b.scr.all (isRun b.n)
 ·go_wp2_with fail
  go_ret
  exact ⟨ret_int (by unfold bkErr; rw [if_neg H1.out, if_neg H2.out, if_neg H6.out, if_neg H7.out, if_pos (.inr (.inl h9))]), HW.out.trans' (grow_below W0 _)⟩
 go_wp2_with fail
 refine callW (W0 := W0) (g := g7) xx (rising_any b.scr _ _ (HS.out.ext xx).scr) fun g8 hgr => ?_
 clear hgr
 cases h10 : rising b.scr
 ·go_wp2_with fail
  go_ret
  exact ⟨ret_int (by unfold bkErr; rw [if_neg H1.out, if_neg H2.out, if_neg H6.out, if_neg H7.out, if_pos (.inr (.inr h10))]), HW.out.trans' (grow_below W0 _)⟩
 have H8 := Lib.hid (show ¬ (b.n - 2 < (b.scr.length : Int) ∨ b.scr.all (isRun b.n) = false ∨ rising b.scr = false) by rw [h9, h10]; simp; omega)
 clear h8 h9 h10
 go_wp2_with fail
 go_ret
 exact ⟨ret_int (by unfold bkErr; rw [if_neg H1.out, if_neg H2.out, if_neg H6.out, if_neg H7.out, if_neg H8.out]), HW.out.trans' (grow_below W0 _)⟩
end Go.Proofs.Ytphajlldghcnnaa
namespace Go.Proofs.Ytphajlldghcnnaa
/-- the sum over a list of bets -/
def sumB (g : PB → Int) : List PB → Int
 | [] => 0
 | x :: l => g x + sumB g l
theorem sumB_app (g : PB → Int) : ∀ (l m : List PB), sumB g (l ++ m) = sumB g l + sumB g m
 | [], m => by simp [sumB]
 | x :: l, m => by simp only [List.cons_append, sumB, sumB_app g l m]; omega
theorem sumB_take (g : PB → Int) {l : List PB} {k : Nat} (h : k < l.length) : sumB g (l.take (k + 1)) = sumB g (l.take k) + g l[k] := by
 rw [List.take_add_one, List.getElem?_eq_getElem h, sumB_app]
 simp [sumB]
theorem sumB_congr {g h : PB → Int} : ∀ {l : List PB}, (∀ x ∈ l, g x = h x) → sumB g l = sumB h l
 | [], _ => rfl
 | x :: l, e => by rw [sumB, sumB, e x (by simp), sumB_congr fun y hy => e y (by simp [hy])]
theorem sumB_bd {g : PB → Int} {c : Int} (hc : 0 ≤ c) : ∀ {l : List PB}, (∀ x ∈ l, 0 ≤ g x ∧ g x ≤ c) → 0 ≤ sumB g l ∧ sumB g l ≤ c * (l.length : Int)
 | [], _ => by simp [sumB]
 | x :: l, h => by
  have h1 := h x (by simp)
  have h2 := sumB_bd hc fun y hy => h y (List.mem_cons_of_mem x hy)
  rw [sumB, List.length_cons, Int.natCast_add, Int.mul_add]
  simp only [Int.natCast_one, Int.mul_one]
  omega
def outB (b : Bk) (r : Int) : Bool := b.scr.contains r
/-- those who run, of the first k -/
def runK (b : Bk) (k : Nat) : List Int := ((List.range k).map fun (i : Nat) => (i : Int)).filter fun r => !outB b r
def runL (b : Bk) : List Int := runK b b.n.toNat
theorem runK_succ (b : Bk) (k : Nat) : runK b (k + 1) = runK b k ++ if outB b k then [] else [(k : Int)] := by
 unfold runK
 rw [List.range_succ, List.map_append, List.filter_append]
 congr 1
 cases h : outB b k <;> simp [h]
theorem runK_len (b : Bk) (k : Nat) : (runK b k).length ≤ k := by
 unfold runK
 exact Nat.le_trans (List.length_filter_le _ _) (by simp)
theorem runL_mem {b : Bk} {r : Int} : r ∈ runL b ↔ 0 ≤ r ∧ r < b.n ∧ outB b r = false := by
 unfold runL runK
 rw [List.mem_filter, List.mem_map]
 constructor
 ·rintro ⟨⟨i, hi, rfl⟩, h⟩
  have := List.mem_range.1 hi
  exact ⟨by omega, by omega, by simpa using h⟩
 ·rintro ⟨h1, h2, h3⟩
  exact ⟨⟨r.toNat, List.mem_range.2 (by omega), by omega⟩, by simpa using h3⟩
theorem runL_nodup (b : Bk) : (runL b).Nodup := by
 unfold runL runK
 refine List.Nodup.sublist List.filter_sublist ?_
 rw [List.nodup_iff_pairwise_ne, List.pairwise_map]
 exact List.nodup_range.imp fun h e => h (by omega)
/-- the units of bets that are on a runner first, none of them out -/
def onF (b : Bk) (r : Int) (x : PB) : Int := if outB b x.f = false ∧ outB b x.s = false ∧ x.f = r then x.u else 0
def sumsP (b : Bk) (r : Int) : Int := sumB (onF b r) b.bets
/-- the first one of the greatest worth -/
def mostL (g : Int → Int) : Int → List Int → Int
 | a, [] => a
 | a, x :: l => mostL g (if g a < g x then x else a) l
def favP (b : Bk) : Int := mostL (sumsP b) ((runL b).headD 0) (runL b)
def onP (b : Bk) (x : PB) : Option (Int × Int) :=
 if outB b x.f = false ∧ outB b x.s = false then some (x.f, x.s) else if single b = true ∧ b.fav = true then some (favP b, -1) else none
def unitsG (b : Bk) (s : Int × Int) (x : PB) : Int := if onP b x = some s then x.u else 0
def unitsP (b : Bk) (s : Int × Int) : Int := sumB (unitsG b s) b.bets
def inP (b : Bk) : Int := b.car + sumB (fun x => 100 * x.u) b.bets
def backG (b : Bk) (x : PB) : Int := if onP b x = none then 100 * x.u else 0
def backP (b : Bk) : Int := sumB (backG b) b.bets
def dutyP (b : Bk) : Int := (inP b - backP b - b.car) * b.duty / 1000
def netP (b : Bk) : Int := inP b - backP b - dutyP b
theorem BVal.bet {b : Bk} (v : BVal b) {x : PB} (hx : x ∈ b.bets) : (1 ≤ x.u ∧ x.u ≤ 1000) ∧ (0 ≤ x.f ∧ x.f < b.n) ∧ (single b = true → x.s = -1) ∧ (single b = false → 0 ≤ x.s ∧ x.s < b.n ∧ x.f ≠ x.s ∧ (b.kd = 3 → x.f ≤ x.s)) := by
 have h := v.odd x hx
 unfold oddB at h
 split at h
 ·cases h
 rename_i h1
 simp only [not_or, Bool.not_eq_false] at h1
 refine ⟨inR_iff.1 h1.1, isRun_iff.1 h1.2, fun hs => ?_, fun hs => ?_⟩
 ·rw [if_pos hs] at h
  simpa using h
 ·rw [if_neg (by rw [hs]; simp)] at h
  split at h
  ·cases h
  rename_i h2
  simp only [not_or, Bool.not_eq_false] at h2
  have h3 := isRun_iff.1 h2.1
  refine ⟨h3.1, h3.2, h2.2, fun hk => ?_⟩
  rw [hk] at h
  simp at h
  omega
theorem flat_gt {l : List Int} (h : rising l = true) : ∀ i, i + 1 < l.length → gt l i < gt l (i + 1) := fun i hi => by
 unfold rising at h
 rw [Bool.not_eq_true', List.any_eq_false] at h
 have h1 := h (i + 1) (List.mem_range.2 hi)
 unfold flat at h1
 rw [decide_eq_true (by omega), Bool.true_and, Nat.add_sub_cancel, decide_eq_true_iff] at h1
 omega
theorem rising_lt {l : List Int} (h : rising l = true) {i j : Nat} (hij : i < j) (hj : j < l.length) : gt l i < gt l j := by
 induction j with
 | zero => omega
 | succ j ih =>
  have h1 := flat_gt h j hj
  rcases Nat.lt_or_ge i j with h2 | h2
  ·have := ih h2 (by omega); omega
  ·have : i = j := by omega
   subst this; exact h1
theorem rising_nodup {l : List Int} (h : rising l = true) : l.Nodup := by
 rw [List.nodup_iff_pairwise_ne, List.pairwise_iff_getElem]
 intro i j hi hj hij e
 have := rising_lt h hij hj
 rw [← gt_get hi, ← gt_get hj] at this
 omega
theorem count_out {α : Type} [DecidableEq α] : ∀ {m l : List α}, m.Nodup → (∀ x ∈ m, x ∈ l) → l.Nodup → (l.filter fun x => !m.contains x).length + m.length = l.length
 | [], l, _, _, _ => by simp
 | a :: m, l, hm, hs, hl => by
  rw [List.nodup_cons] at hm
  have hal := hs a (by simp)
  have ih := count_out (m := m) (l := l.erase a) hm.2 (fun x hx => (List.mem_erase_of_ne (fun e => hm.1 (by rw [← e]; exact hx))).2 (hs x (by simp [hx]))) (hl.erase a)
  rw [List.length_erase_of_mem hal] at ih
  have hlp := List.length_pos_of_mem hal
  have e : (l.erase a).filter (fun x => !m.contains x) = l.filter fun x => !(a :: m).contains x := by
   rw [hl.erase_eq_filter, List.filter_filter]
   refine List.filter_congr fun x _ => ?_
   by_cases h : x = a
   ·subst h; simp
   ·simp [h]
  rw [e] at ih
  rw [List.length_cons]
  omega
/-- how many run -/
theorem runL_len {b : Bk} (v : BVal b) : ((runL b).length : Int) = b.n - b.scr.length := by
 have hn : (((List.range b.n.toNat).map fun (i : Nat) => (i : Int))).Nodup := by
  rw [List.nodup_iff_pairwise_ne, List.pairwise_map]
  exact List.nodup_range.imp fun h e => h (by omega)
 have := count_out (m := b.scr) (rising_nodup v.inc) (fun x hx => by
  have := v.scr x hx
  exact List.mem_map.2 ⟨x.toNat, List.mem_range.2 (by omega), by omega⟩) hn
 have h2 := v.n
 simp only [List.length_map, List.length_range] at this
 unfold runL runK outB
 omega
theorem runL_two {b : Bk} (v : BVal b) : 2 ≤ (runL b).length := by
 have h1 := runL_len v
 have h2 := v.left
 omega
theorem runL_le {b : Bk} (v : BVal b) : (runL b).length ≤ 8 := by
 have h1 := runL_len v
 have h2 := v.n
 omega
theorem mostL_mem (g : Int → Int) : ∀ (l : List Int) (a : Int), mostL g a l = a ∨ mostL g a l ∈ l
 | [], a => .inl rfl
 | x :: l, a => by
  rw [mostL]
  rcases mostL_mem g l (if g a < g x then x else a) with h | h
  ·rw [h]
   split
   ·exact .inr (by simp)
   ·exact .inl rfl
  ·exact .inr (by simp [h])
theorem favP_mem {b : Bk} (v : BVal b) : favP b ∈ runL b := by
 have h2 := runL_two v
 unfold favP
 rcases h : runL b with _ | ⟨a, l⟩
 ·rw [h] at h2; simp at h2
 ·rcases mostL_mem (sumsP b) (a :: l) ((a :: l).headD 0) with e | e
  ·rw [e]; simp
  ·exact e
theorem mostL_flat (g : Int → Int) : ∀ (l : List Int) (a : Int), (∀ x ∈ l, g x = g a) → mostL g a l = a
 | [], _, _ => rfl
 | x :: l, a, h => by
  have h1 := h x (by simp)
  rw [mostL, if_neg (by omega)]
  exact mostL_flat g l a fun y hy => h y (by simp [hy])
/-- the bounds of what is summed -/
theorem units_bd {b : Bk} (v : BVal b) (s : Int × Int) (k : Nat) : 0 ≤ sumB (unitsG b s) (b.bets.take k) ∧ sumB (unitsG b s) (b.bets.take k) ≤ 100000 := by
 have h := sumB_bd (g := unitsG b s) (c := 1000) (by omega) (l := b.bets.take k) fun x hx => by
  have := (v.bet (List.mem_of_mem_take hx)).1
  unfold unitsG; split <;> omega
 have h2 := v.many
 have h3 : (b.bets.take k).length ≤ 100 := by rw [List.length_take]; omega
 omega
theorem sums_bd {b : Bk} (v : BVal b) (r : Int) (k : Nat) : 0 ≤ sumB (onF b r) (b.bets.take k) ∧ sumB (onF b r) (b.bets.take k) ≤ 100000 := by
 have h := sumB_bd (g := onF b r) (c := 1000) (by omega) (l := b.bets.take k) fun x hx => by
  have := (v.bet (List.mem_of_mem_take hx)).1
  unfold onF; split <;> omega
 have h2 := v.many
 have h3 : (b.bets.take k).length ≤ 100 := by rw [List.length_take]; omega
 omega
theorem in_bd {b : Bk} (v : BVal b) (k : Nat) : 0 ≤ sumB (fun x => 100 * x.u) (b.bets.take k) ∧ sumB (fun x => 100 * x.u) (b.bets.take k) ≤ 10000000 := by
 have h := sumB_bd (g := fun x => 100 * x.u) (c := 100000) (by omega) (l := b.bets.take k) fun x hx => by
  have := (v.bet (List.mem_of_mem_take hx)).1
  omega
 have h2 := v.many
 have h3 : (b.bets.take k).length ≤ 100 := by rw [List.length_take]; omega
 omega
theorem back_bd {b : Bk} (v : BVal b) (k : Nat) : 0 ≤ sumB (backG b) (b.bets.take k) ∧ sumB (backG b) (b.bets.take k) ≤ sumB (fun x => 100 * x.u) (b.bets.take k) := by
 have key : ∀ (l : List PB), (∀ x ∈ l, x ∈ b.bets) → 0 ≤ sumB (backG b) l ∧ sumB (backG b) l ≤ sumB (fun x => 100 * x.u) l := by
  intro l
  induction l with
  | nil => intro _; simp [sumB]
  | cons x l ih =>
   intro h
   have h1 := ih fun y hy => h y (by simp [hy])
   have h2 := (v.bet (h x (by simp))).1
   simp only [sumB, backG]
   split <;> omega
 exact key _ fun x hx => List.mem_of_mem_take hx
/-- what the net is made of -/
theorem net_bd {b : Bk} (v : BVal b) : (0 ≤ inP b ∧ inP b ≤ 11000000) ∧ (0 ≤ backP b ∧ backP b ≤ inP b - b.car) ∧ (0 ≤ dutyP b ∧ dutyP b ≤ inP b - backP b - b.car) ∧ (b.car ≤ netP b ∧ netP b ≤ inP b) ∧ 0 ≤ (inP b - backP b - b.car) * b.duty ∧ (inP b - backP b - b.car) * b.duty ≤ 5500000000 := by
 have h1 := in_bd v b.bets.length
 have h2 := back_bd v b.bets.length
 rw [List.take_length] at h1 h2
 have hc := v.car
 have hd := v.duty
 have e1 : inP b = b.car + sumB (fun x => 100 * x.u) b.bets := rfl
 have e2 : backP b = sumB (backG b) b.bets := rfl
 have hA : 0 ≤ inP b - backP b - b.car := by omega
 have hM : (inP b - backP b - b.car) * b.duty ≤ (inP b - backP b - b.car) * 500 := Int.mul_le_mul_of_nonneg_left hd.2 hA
 have hM0 : 0 ≤ (inP b - backP b - b.car) * b.duty := Int.mul_nonneg hA hd.1
 have e3 : dutyP b = (inP b - backP b - b.car) * b.duty / 1000 := rfl
 have e4 : netP b = inP b - backP b - dutyP b := rfl
 have hA2 : inP b - backP b - b.car ≤ 11000000 := by omega
 generalize (inP b - backP b - b.car) * b.duty = m at *
 omega
end Go.Proofs.Ytphajlldghcnnaa
namespace Go.Proofs.Ytphajlldghcnnaa
open Go.RowKit Go.Shelf

section
variable {K V : Type} [DecidableEq K]
/-- the entries of a map: key, value, and when it came -/
abbrev Ents (K V : Type) := List (K × V × Nat)
def encE (ke : K → Value) (ve : V → Value) (e : K × V × Nat) : MapEntry := { key := ke e.1, val := ve e.2.1, born := e.2.2 }
def IsMap (ke : K → Value) (ve : V → Value) (W : World) (r : Nat) (es : Ents K V) (clock : Nat) : Prop :=
 W.heap[r]? = some (.map (es.map (encE ke ve)).toArray clock)
def lookFrom (ve : V → Value) (k : K) : Ents K V → Nat → Option (Nat × Value)
 | [], _ => none
 | e :: es, i => if e.1 = k then some (i, ve e.2.1) else lookFrom ve k es (i + 1)
def getE (es : Ents K V) (k : K) : Option V := (es.find? fun e => decide (e.1 = k)).map (·.2.1)
def updE (k : K) (v : V) (clock : Nat) (es : Ents K V) : Ents K V :=
 match es.findIdx? (fun e => decide (e.1 = k)) with
 | some i => es.modify i fun e => (k, v, e.2.2)
 | none => es ++ [(k, v, clock)]
def clockE (k : K) (clock : Nat) (es : Ents K V) : Nat := if (es.findIdx? (fun e => decide (e.1 = k))).isSome then clock else clock + 1
def delE (k : K) (es : Ents K V) : Ents K V := es.filter fun e => decide (e.1 ≠ k)

/-- how the operations on a map of these types run -/
structure Keyed (P : Program) (tm tk tv : TypeId) (ke : K → Value) (ve : V → Value) : Prop where
 und : P.underlying tm = some (.map tk tv)
 chk : ∀ b k w, (Instr.checkKey b 10000 tk (ke k)).run P w = .ok () w
 find : ∀ k (l : Ents K V) w, (Instr.findKey tk (ke k) (l.map (encE ke ve))).run P w = .ok (lookFrom ve k l 0) w
 stay : ∀ k, Instr.sameBits 10000 (ke k) (ke k) = true

theorem lookFrom_eq (ve : V → Value) (k : K) : ∀ (es : Ents K V) (i : Nat), lookFrom ve k es i = (es.findIdx? fun e => decide (e.1 = k)).bind fun j => (es[j]?).map fun e => (i + j, ve e.2.1)
 | [], _ => rfl
 | e :: es, i => by
  unfold lookFrom
  by_cases h : e.1 = k
  ·simp [h, List.findIdx?_cons]
  ·rw [if_neg h, lookFrom_eq ve k es (i + 1)]
   simp only [List.findIdx?_cons, h, decide_false, Bool.false_eq_true, if_false]
   cases es.findIdx? fun e => decide (e.1 = k) with
   | none => rfl
   | some j =>
    simp only [Option.map_some, Option.bind_some, List.getElem?_cons_succ]
    congr 1
    funext e
    simp; omega
theorem find_findIdx (k : K) (es : Ents K V) : es.find? (fun e => decide (e.1 = k)) = (es.findIdx? fun e => decide (e.1 = k)).bind (es[·]?) := by
 induction es with
 | nil => rfl
 | cons e es ih =>
  simp only [List.find?_cons, List.findIdx?_cons]
  by_cases h : e.1 = k
  ·simp [h]
  ·simp only [h, decide_false, Bool.false_eq_true, if_false]
   rw [ih]
   cases es.findIdx? fun e => decide (e.1 = k) <;> simp

theorem lookFrom_get (ve : V → Value) (k : K) (es : Ents K V) : (lookFrom ve k es 0).map (·.2) = (getE es k).map ve := by
 rw [lookFrom_eq, getE, find_findIdx]
 cases h : es.findIdx? fun e => decide (e.1 = k) with
 | none => rfl
 | some j => simp only [Option.bind_some, Option.map_map]; rfl

theorem getE_upd (k k' : K) (v : V) (clock : Nat) (es : Ents K V) : getE (updE k v clock es) k' = if k' = k then some v else getE es k' := by
 unfold getE updE
 cases h : es.findIdx? fun e => decide (e.1 = k) with
 | none =>
  rw [List.findIdx?_eq_none_iff] at h
  simp only [List.find?_append]
  by_cases hk : k' = k
  ·subst hk
   rw [List.find?_eq_none.2 (by simpa using h)]
   simp
  ·simp only [hk, if_false]
   cases hf : es.find? fun e => decide (e.1 = k') with
   | some e => simp
   | none => simp [Ne.symm hk]
 | some i =>
  rw [List.findIdx?_eq_some_iff_getElem] at h
  obtain ⟨hi, h1, h2⟩ := h
  have h1' : es[i].1 = k := by simpa using h1
  clear h1
  simp only
  induction es generalizing i with
  | nil => simp at hi
  | cons e es ih =>
   cases i with
   | zero =>
    simp only [List.getElem_cons_zero] at h1'
    simp only [List.modify_zero_cons, List.find?_cons]
    by_cases hk : k' = k
    ·simp [hk]
    ·have : e.1 ≠ k' := fun e' => hk (e'.symm.trans h1')
     simp [hk, Ne.symm hk, this]
   | succ i =>
    simp only [List.modify_succ_cons, List.find?_cons]
    have h0 := h2 0 (by omega)
    simp at h0
    by_cases he : e.1 = k'
    ·have hk : k' ≠ k := fun h => h0 (he.trans h)
     simp [he, hk]
    ·simp only [he, decide_false]
     exact ih i (by simpa using hi) (fun j hj => by have := h2 (j + 1) (by omega); simpa using this) (by simpa using h1')

theorem getE_del (k k' : K) (es : Ents K V) : getE (delE k es) k' = if k' = k then none else getE es k' := by
 unfold getE delE
 by_cases hk : k' = k
 ·subst hk
  simp only [if_true, Option.map_eq_none_iff, List.find?_eq_none]
  intro e he
  simp at he ⊢
  exact he.2
 ·simp only [hk, if_false]
  congr 1
  induction es with
  | nil => rfl
  | cons e es ih =>
   simp only [List.filter_cons]
   by_cases h : e.1 = k
   ·simp only [h, ne_eq, not_true, decide_false, Bool.false_eq_true, if_false, List.find?_cons]
    have : ¬ k = k' := fun h => hk h.symm
    simp only [this, decide_false]
    exact ih
   ·simp only [ne_eq, h, not_false_iff, decide_true, if_true, List.find?_cons]
    by_cases h' : e.1 = k'
    ·simp [h']
    ·simp only [h', decide_false]; exact ih

/-- the keys come once -/
def Once (es : Ents K V) : Prop := (es.map (·.1)).Nodup
theorem Once.upd {es : Ents K V} (h : Once es) (k : K) (v : V) (c : Nat) : Once (updE k v c es) := by
 unfold Once updE at *
 cases hf : es.findIdx? fun e => decide (e.1 = k) with
 | none =>
  rw [List.findIdx?_eq_none_iff] at hf
  simp only [List.map_append, List.map_cons, List.map_nil]
  rw [List.nodup_append]
  refine ⟨h, by simp, ?_⟩
  intro a ha b hb
  simp at hb
  subst hb
  rw [List.mem_map] at ha
  obtain ⟨e, he, rfl⟩ := ha
  simpa using hf e he
 | some i =>
  rw [List.findIdx?_eq_some_iff_getElem] at hf
  obtain ⟨hi, h1, _⟩ := hf
  have h1' : es[i].1 = k := by simpa using h1
  have : (es.modify i fun e => (k, v, e.2.2)).map (·.1) = es.map (·.1) := by
   apply List.ext_getElem (by simp)
   intro j hj1 hj2
   simp only [List.getElem_map, List.getElem_modify]
   split
   ·rename_i e; subst e; exact h1'.symm
   ·rfl
  simp only [this]; exact h
theorem Once.del {es : Ents K V} (h : Once es) (k : K) : Once (delE k es) := by
 unfold Once delE at *
 exact List.Nodup.sublist (List.Sublist.map _ List.filter_sublist) h
omit [DecidableEq K] in
theorem once_nil : Once ([] : Ents K V) := List.Pairwise.nil

variable {P : Program} {tm tk tv : TypeId} {ke : K → Value} {ve : V → Value} (hk : Keyed P tm tk tv ke ve)
include hk

theorem run_lookup_ok {W : World} {r : Nat} {es : Ents K V} {c : Nat} (hm : IsMap ke ve W r es c) (k : K) {v : V} (hg : getE es k = some v) :
  (Instr.lookup tm (.map (some r)) (ke k) true).run P W = .ok (.tuple #[ve v, .bool true]) W := by
 have h1 := lookFrom_get ve k es
 rw [hg] at h1
 obtain ⟨p, hp, hp2⟩ := Option.map_eq_some_iff.1 h1
 obtain ⟨i, u⟩ := p
 simp only at hp2
 subst hp2
 have hf := hk.find k es W
 rw [hp] at hf
 unfold IsMap at hm
 simp [Instr.lookup, run_underlying hk.und, getObj, Sem.run, hm, hk.chk, hf]
theorem run_lookup_none {W : World} {r : Nat} {es : Ents K V} {c : Nat} (hm : IsMap ke ve W r es c) (k : K) (hg : getE es k = none) {z : Value} (hz : ∀ w, (zeroValue tv).run P w = .ok z w) :
  (Instr.lookup tm (.map (some r)) (ke k) true).run P W = .ok (.tuple #[z, .bool false]) W := by
 have h1 := lookFrom_get ve k es
 rw [hg] at h1
 have hp : lookFrom ve k es 0 = none := by simpa using h1
 have hf := hk.find k es W
 rw [hp] at hf
 unfold IsMap at hm
 simp [Instr.lookup, run_underlying hk.und, getObj, Sem.run, hm, hk.chk, hf, hz]
theorem run_lookup1 {W : World} {r : Nat} {es : Ents K V} {c : Nat} (hm : IsMap ke ve W r es c) (k : K) {v : V} (hg : getE es k = some v) :
  (Instr.lookup tm (.map (some r)) (ke k) false).run P W = .ok (ve v) W := by
 have h1 := lookFrom_get ve k es
 rw [hg] at h1
 obtain ⟨p, hp, hp2⟩ := Option.map_eq_some_iff.1 h1
 obtain ⟨i, u⟩ := p
 simp only at hp2
 subst hp2
 have hf := hk.find k es W
 rw [hp] at hf
 unfold IsMap at hm
 simp [Instr.lookup, run_underlying hk.und, getObj, Sem.run, hm, hk.chk, hf]
theorem run_lookup1_none {W : World} {r : Nat} {es : Ents K V} {c : Nat} (hm : IsMap ke ve W r es c) (k : K) (hg : getE es k = none) {z : Value} (hz : ∀ w, (zeroValue tv).run P w = .ok z w) :
  (Instr.lookup tm (.map (some r)) (ke k) false).run P W = .ok z W := by
 have h1 := lookFrom_get ve k es
 rw [hg] at h1
 have hp : lookFrom ve k es 0 = none := by simpa using h1
 have hf := hk.find k es W
 rw [hp] at hf
 unfold IsMap at hm
 simp [Instr.lookup, run_underlying hk.und, getObj, Sem.run, hm, hk.chk, hf, hz]

theorem run_update {W : World} {r : Nat} {es : Ents K V} {c : Nat} (hm : IsMap ke ve W r es c) (k : K) (v : V) :
  (Instr.mapUpdate tm (.map (some r)) (ke k) (ve v)).run P W = .ok () (W.putObj r (.map ((updE k v c es).map (encE ke ve)).toArray (clockE k c es))) := by
 have hf := hk.find k es W
 rw [lookFrom_eq] at hf
 unfold IsMap at hm
 unfold updE clockE
 cases hi : es.findIdx? fun e => decide (e.1 = k) with
 | none =>
  rw [hi] at hf
  simp only [Option.bind_none] at hf
  simp [Instr.mapUpdate, run_underlying hk.und, getObj, setObj, Sem.run, hm, hk.chk, hf, World.putObj, encE]
 | some i =>
  rw [hi] at hf
  rw [List.findIdx?_eq_some_iff_getElem] at hi
  obtain ⟨hl, h1, _⟩ := hi
  have h1' : es[i].1 = k := by simpa using h1
  simp only [Option.bind_some, List.getElem?_eq_getElem hl, Option.map_some] at hf
  have hky : (((es.map (encE ke ve)).toArray[i]?).map (·.key)).getD (ke k) = ke k := by
   simp [hl, encE, h1']
  have e2 : ((es.map (encE ke ve)).modify i fun e => { e with key := ke k, val := ve v }) = (es.modify i fun e => (k, v, e.2.2)).map (encE ke ve) := by
   apply List.ext_getElem (by simp)
   intro j hj1 hj2
   simp only [List.getElem_modify, List.getElem_map]
   split
   ·rename_i e; simp [encE]
   ·rfl
  have hky' : (Option.map ((fun x => x.key) ∘ encE ke ve) es[i]?).getD (ke k) = ke k := by simpa using hky
  have hst : (Instr.keyThatStays (ke k) (ke k)).run P W = .ok (ke k) W := by simp [Instr.keyThatStays, hk.stay]
  simp [Instr.mapUpdate, run_underlying hk.und, getObj, setObj, Sem.run, hm, hk.chk, hf, World.putObj]
  rw [hky', hst]
  simp [hm, e2]

omit [DecidableEq K] hk in
theorem eraseIdx_map' {α β : Type} (f : α → β) : ∀ (l : List α) (i : Nat), (l.map f).eraseIdx i = (l.eraseIdx i).map f
 | [], _ => rfl
 | _ :: _, 0 => rfl
 | a :: l, i + 1 => by simp [eraseIdx_map' f l i]
theorem run_delete {W : World} {r : Nat} {es : Ents K V} {c : Nat} (hm : IsMap ke ve W r es c) (ho : Once es) (k : K) (ty : TypeId) :
  (Builtin.delete_ #[tm, tk] ty #[.map (some r), ke k]).run P W = .ok (.tuple #[]) (W.putObj r (.map ((delE k es).map (encE ke ve)).toArray c)) := by
 have hf := hk.find k es W
 rw [lookFrom_eq] at hf
 unfold IsMap at hm
 cases hi : es.findIdx? fun e => decide (e.1 = k) with
 | none =>
  rw [hi] at hf
  simp only [Option.bind_none] at hf
  rw [List.findIdx?_eq_none_iff] at hi
  have e : delE k es = es := by
   unfold delE
   rw [List.filter_eq_self]
   intro a ha
   simpa using hi a ha
  rw [e]
  simp [Builtin.delete_, run_underlying hk.und, getObj, setObj, Sem.run, hm, hk.chk, hf, World.putObj]
 | some i =>
  rw [hi] at hf
  rw [List.findIdx?_eq_some_iff_getElem] at hi
  obtain ⟨hl, h1, _⟩ := hi
  have h1' : es[i].1 = k := by simpa using h1
  simp only [Option.bind_some, List.getElem?_eq_getElem hl, Option.map_some] at hf
  have e : delE k es = es.eraseIdx i := by
   unfold delE
   clear hm hf
   induction es generalizing i with
   | nil => simp at hl
   | cons a es ih =>
    unfold Once at ho
    simp only [List.map_cons, List.nodup_cons] at ho
    cases i with
    | zero =>
     simp only [List.getElem_cons_zero] at h1'
     simp only [List.eraseIdx_cons_zero, List.filter_cons, h1', ne_eq, not_true, decide_false, Bool.false_eq_true, if_false]
     rw [List.filter_eq_self]
     intro b hb
     have : b.1 ≠ a.1 := fun e => ho.1 (by rw [← e]; exact List.mem_map_of_mem hb)
     rw [h1'] at this
     simpa using this
    | succ i =>
     simp only [List.eraseIdx_cons_succ, List.filter_cons]
     have hne : a.1 ≠ k := fun e => ho.1 (by
      rw [e, ← h1']
      simp only [List.getElem_cons_succ]
      exact List.mem_map_of_mem (List.getElem_mem _))
     simp only [ne_eq, hne, not_false_iff, decide_true, if_true]
     rw [ih ho.2 i (by simpa using hl) (by simpa using h1) (by rename_i hh; intro j hj; have := hh (j+1) (by omega); simpa using this) (by simpa using h1')]
  have e2 : ((es.map (encE ke ve)).toArray.eraseIdxIfInBounds i) = ((delE k es).map (encE ke ve)).toArray := by
   rw [e]
   rw [← eraseIdx_map']
   simp
  simp [Builtin.delete_, run_underlying hk.und, getObj, setObj, Sem.run, hm, hk.chk, hf, World.putObj]
  rw [← e2]
  simp

theorem run_range {W : World} {r : Nat} {es : Ents K V} {c : Nat} (hm : IsMap ke ve W r es c) :
  (Instr.range tm (.map (some r))).run P W = .ok (.pointer (some ⟨W.heap.size, 0, none⟩)) (W.alloc (.mapIter (some r) c #[] c)) := by
 unfold IsMap at hm
 simp [Instr.range, run_underlying hk.und, getObj, Sem.run, hm]

omit [DecidableEq K] hk in
/-- one step of a range over a map into which nothing comes meanwhile: it is over, or some entry is met that was not met before -/
theorem run_next {W : World} {r it : Nat} {es : Ents K V} {c : Nat} {seen : Array Nat} (hm : IsMap ke ve W r es c) (hi : W.heap[it]? = some (.mapIter (some r) c seen c)) (hb : ∀ e ∈ es, e.2.2 < c) :
  ((∀ e ∈ es, e.2.2 ∈ seen) ∧ ∀ ty, (Instr.next (.pointer (some ⟨it, 0, none⟩)) false ty).run P W = .ok (.tuple #[.bool false]) W) ∨
  ∃ e ∈ es, e.2.2 ∉ seen ∧ ∃ W', W'.heap = (W.putObj it (.mapIter (some r) c (seen.push e.2.2) c)).heap ∧ W'.os = W.os ∧ W'.tape = W.tape ∧ W'.output = W.output ∧
   ∀ ty, (Instr.next (.pointer (some ⟨it, 0, none⟩)) false ty).run P W = .ok (.tuple #[.bool true, ke e.1, ve e.2.1]) W' := by
 unfold IsMap at hm
 have hns : (!seen.isEmpty && !(es.map (encE ke ve)).toArray.isEmpty && (es.map (encE ke ve)).toArray.all (·.born ≥ c)) = false := by
  cases es with
  | nil => simp
  | cons e es =>
   have := hb e (by simp)
   simp [encE]
   intro _ h
   omega
 let left := (es.map (encE ke ve)).toArray.filter fun e => !seen.contains e.born
 have hleft : ∀ x ∈ left, ∃ e ∈ es, e.2.2 ∉ seen ∧ x = encE ke ve e := by
  intro x hx
  simp only [left, Array.mem_filter, List.mem_toArray, List.mem_map] at hx
  obtain ⟨⟨e, he, rfl⟩, h2⟩ := hx
  exact ⟨e, he, by simpa [encE] using h2, rfl⟩
 have hold : left.filter (·.born < c) = left := by
  rw [Array.filter_eq_self]
  intro x hx
  obtain ⟨e, he, _, rfl⟩ := hleft x hx
  exact decide_eq_true (hb e he)
 have hnew : left.filter (·.born ≥ c) = #[] := by
  rw [Array.filter_eq_empty_iff]
  intro x hx
  obtain ⟨e, he, _, rfl⟩ := hleft x hx
  have := hb e he
  simp [encE]; omega
 by_cases h0 : left = #[]
 ·refine .inl ⟨fun e he => ?_, ?_⟩
  ·by_cases hs : e.2.2 ∈ seen
   ·exact hs
   ·exfalso
    have : encE ke ve e ∈ left := by
     simp only [left, Array.mem_filter, List.mem_toArray]
     exact ⟨List.mem_map_of_mem he, by simpa [encE] using hs⟩
    rw [h0] at this
    simp at this
  ·intro ty
   simp only [left] at h0 hold hnew
   simp only [Instr.next, Sem.run_bind, getObj, Sem.run, hi, hm, Result.andThen_ok]
   simp only [hns, Bool.false_eq_true, if_false, Sem.run_bind, h0]
   simp [choose, Sem.run, Question.forced]
 ·right
  have hne : left.isEmpty = false := by simpa using h0
  let cand := (if left.isEmpty then #[none] else #[]) ++ (left ++ (#[] : Array MapEntry)).map some
  have hcand : cand = left.map some := by simp [cand, hne]
  have hsz : 0 < left.size := by
   rcases Nat.eq_zero_or_pos left.size with h | h
   ·exact absurd (Array.size_eq_zero_iff.1 h) h0
   ·exact h
  have pick : ∀ j, j < left.size → ∃ e ∈ es, e.2.2 ∉ seen ∧ (left.map some)[j]? = some (some (encE ke ve e)) := by
   intro j hj
   obtain ⟨e, he, hs, hx⟩ := hleft left[j] (Array.getElem_mem hj)
   exact ⟨e, he, hs, by simp [hj, hx]⟩
  have run : ∀ (j : Nat) (W2 : World) (e : K × V × Nat), (choose (.mapNext left.size)).run P W = .ok j W2 → W2.heap = W.heap → W2.os = W.os → W2.tape = W.tape → W2.output = W.output → (left.map some)[j]? = some (some (encE ke ve e)) →
    ∃ W', W'.heap = (W.putObj it (.mapIter (some r) c (seen.push e.2.2) c)).heap ∧ W'.os = W.os ∧ W'.tape = W.tape ∧ W'.output = W.output ∧
     ∀ ty, (Instr.next (.pointer (some ⟨it, 0, none⟩)) false ty).run P W = .ok (.tuple #[.bool true, ke e.1, ve e.2.1]) W' := by
   intro j W2 e hch hh ho ht hp he
   refine ⟨W2.putObj it (.mapIter (some r) c (seen.push e.2.2) c), by simp [World.putObj, hh], ho, ht, hp, fun ty => ?_⟩
   have hi2 : W2.heap[it]? = some (.mapIter (some r) c seen c) := by rw [hh]; exact hi
   simp only [left] at hold hnew hne hch he
   simp only [Instr.next, Sem.run_bind, getObj, Sem.run, hi, hm, Result.andThen_ok]
   simp only [hns, Bool.false_eq_true, if_false, Sem.run_bind, Sem.run_pure, Result.andThen_ok, hold, hnew, hne, Array.append_empty, Array.empty_append, Array.size_map, hch, he]
   simp [setObj, Sem.run, hi2, World.putObj, encE]
  by_cases h1 : left.size ≤ 1
  ·obtain ⟨e, he, hs, hx⟩ := pick 0 hsz
   obtain ⟨W', a1, a2, a3, a4, a5⟩ := run 0 W e (by simp [choose, Sem.run, Question.forced, h1]) rfl rfl rfl rfl hx
   exact ⟨e, he, hs, W', a1, a2, a3, a4, a5⟩
  ·obtain ⟨e, he, hs, hx⟩ := pick ((Question.mapNext left.size).cut (W.tape W.drawn (.mapNext left.size))) (by simp [Question.cut]; exact Nat.mod_lt _ hsz)
   obtain ⟨W', a1, a2, a3, a4, a5⟩ := run _ { W with drawn := W.drawn + 1 } e (by simp [choose, Sem.run, Question.forced, h1]) rfl rfl rfl rfl hx
   exact ⟨e, he, hs, W', a1, a2, a3, a4, a5⟩

omit [DecidableEq K] hk in
theorem run_entry {W : World} {r it : Nat} {es : Ents K V} {c : Nat} {seen : Array Nat} {e : K × V × Nat} (hm : IsMap ke ve W r es c) (hi : W.heap[it]? = some (.mapIter (some r) c (seen.push e.2.2) c))
  (he : e ∈ es) (hb : (es.map (·.2.2)).Nodup) :
  (Instr.entry (.pointer (some ⟨it, 0, none⟩))).run P W = .ok (.tuple #[ke e.1, ve e.2.1]) W := by
 unfold IsMap at hm
 have hf : (es.map (encE ke ve)).find? (fun x => x.born == e.2.2) = some (encE ke ve e) := by
  clear hm
  induction es with
  | nil => simp at he
  | cons a es ih =>
   simp only [List.map_cons, List.find?_cons]
   simp only [List.map_cons, List.nodup_cons] at hb
   by_cases h : a.2.2 = e.2.2
   ·have : a = e := by
     rcases List.mem_cons.1 he with rfl | h'
     ·rfl
     ·exact absurd (by rw [h]; exact List.mem_map_of_mem h') hb.1
    subst this
    simp [encE]
   ·have : ((encE ke ve a).born == e.2.2) = false := by simpa [encE] using h
    rw [this]
    have he' : e ∈ es := by
     rcases List.mem_cons.1 he with rfl | h'
     ·exact absurd rfl h
     ·exact h'
    exact ih he' hb.2
 simp [Instr.entry, getObj, Sem.run, hi, hm, hf, encE]

omit hk in
/-- no two entries came at once, and all came before now -/
def Borns (es : Ents K V) (c : Nat) : Prop := (es.map (·.2.2)).Nodup ∧ ∀ e ∈ es, e.2.2 < c
omit hk in
theorem Borns.upd {es : Ents K V} {c : Nat} (h : Borns es c) (k : K) (v : V) : Borns (updE k v c es) (clockE k c es) := by
 unfold Borns updE clockE at *
 cases hf : es.findIdx? fun e => decide (e.1 = k) with
 | none =>
  refine ⟨?_, ?_⟩
  ·simp only [List.map_append, List.map_cons, List.map_nil]
   rw [List.nodup_append]
   refine ⟨h.1, by simp, ?_⟩
   intro a ha b hb
   simp at hb
   subst hb
   rw [List.mem_map] at ha
   obtain ⟨e, he, rfl⟩ := ha
   have := h.2 e he
   omega
  ·intro e he
   simp only [List.mem_append, List.mem_singleton] at he
   rcases he with he | rfl
   ·have := h.2 e he
    simp; omega
   ·simp
 | some i =>
  have hm : (es.modify i fun e => (k, v, e.2.2)).map (·.2.2) = es.map (·.2.2) := by
   apply List.ext_getElem (by simp)
   intro j hj1 hj2
   simp only [List.getElem_map, List.getElem_modify]
   split <;> rfl
  refine ⟨by simp only [hm]; exact h.1, ?_⟩
  intro e he
  have : e.2.2 ∈ (es.modify i fun e => (k, v, e.2.2)).map (·.2.2) := List.mem_map_of_mem he
  rw [hm, List.mem_map] at this
  obtain ⟨e', he', e2⟩ := this
  have := h.2 e' he'
  simp; omega
omit hk in
theorem Borns.del {es : Ents K V} {c : Nat} (h : Borns es c) (k : K) : Borns (delE k es) c := by
 unfold Borns delE at *
 exact ⟨List.Nodup.sublist (List.Sublist.map _ List.filter_sublist) h.1, fun e he => h.2 e (List.mem_filter.1 he).1⟩
omit hk in
/-- a map that holds F -/
def MapIs (ke : K → Value) (ve : V → Value) (W : World) (r : Nat) (F : K → Option V) : Prop :=
 ∃ es c, IsMap ke ve W r es c ∧ Once es ∧ Borns es c ∧ ∀ k, getE es k = F k
omit hk in
theorem MapIs.of_heap {W W' : World} {r : Nat} {F : K → Option V} (h : MapIs ke ve W r F) (e : W'.heap[r]? = W.heap[r]?) : MapIs ke ve W' r F := by
 obtain ⟨es, c, h1, h2⟩ := h
 exact ⟨es, c, e.trans h1, h2⟩
omit hk in
theorem MapIs.ext {W W' : World} {r : Nat} {F : K → Option V} (h : MapIs ke ve W r F) (e : Below W.heap.size W W') : MapIs ke ve W' r F := by
 refine h.of_heap (e.block r ?_)
 obtain ⟨es, c, h1, _⟩ := h
 exact (Array.getElem?_eq_some_iff.1 h1).1
omit hk in
theorem MapIs.lt {W : World} {r : Nat} {F : K → Option V} (h : MapIs ke ve W r F) : r < W.heap.size := by
 obtain ⟨es, c, h1, _⟩ := h
 exact (Array.getElem?_eq_some_iff.1 h1).1
omit hk in
theorem mapIs_new (W : World) : MapIs ke ve (W.alloc (.map #[] 0)) W.heap.size (fun _ : K => (none : Option V)) :=
 ⟨[], 0, World.alloc_heap_new W _, once_nil, ⟨List.Pairwise.nil, fun _ h => by cases h⟩, fun _ => rfl⟩
theorem MapIs.upd {W : World} {r : Nat} {F : K → Option V} (h : MapIs ke ve W r F) (k : K) (v : V) :
  ∃ W', (Instr.mapUpdate tm (.map (some r)) (ke k) (ve v)).run P W = .ok () W' ∧ W.grownBy W' (some r) ∧ W'.heap.size = W.heap.size ∧ MapIs ke ve W' r (fun k' => if k' = k then some v else F k') := by
 have hl := h.lt
 obtain ⟨es, c, h1, h2, h3, h4⟩ := h
 refine ⟨_, run_update hk h1 k v, ?_, by simp, ?_⟩
 ·exact ⟨rfl, rfl, rfl, by simp, fun j hj hne => World.putObj_heap_other (fun e => hne (by rw [e]))⟩
 ·exact ⟨_, _, World.putObj_heap_same hl, h2.upd k v c, h3.upd k v, fun k' => by rw [getE_upd, h4]⟩
theorem MapIs.look {W : World} {r : Nat} {F : K → Option V} (h : MapIs ke ve W r F) (k : K) {v : V} (hg : F k = some v) :
  (Instr.lookup tm (.map (some r)) (ke k) false).run P W = .ok (ve v) W := by
 obtain ⟨es, c, h1, h2, h3, h4⟩ := h
 exact run_lookup1 hk h1 k ((h4 k).trans hg)
theorem MapIs.look_ok {W : World} {r : Nat} {F : K → Option V} (h : MapIs ke ve W r F) (k : K) {v : V} (hg : F k = some v) :
  (Instr.lookup tm (.map (some r)) (ke k) true).run P W = .ok (.tuple #[ve v, .bool true]) W := by
 obtain ⟨es, c, h1, h2, h3, h4⟩ := h
 exact run_lookup_ok hk h1 k ((h4 k).trans hg)
theorem MapIs.look_none {W : World} {r : Nat} {F : K → Option V} (h : MapIs ke ve W r F) (k : K) (hg : F k = none) {z : Value} (hz : ∀ w, (zeroValue tv).run P w = .ok z w) :
  (Instr.lookup tm (.map (some r)) (ke k) true).run P W = .ok (.tuple #[z, .bool false]) W := by
 obtain ⟨es, c, h1, h2, h3, h4⟩ := h
 exact run_lookup_none hk h1 k ((h4 k).trans hg) hz
theorem MapIs.del {W : World} {r : Nat} {es : Ents K V} {c : Nat} (h1 : IsMap ke ve W r es c) (h2 : Once es) (h3 : Borns es c) (k : K) (ty : TypeId) :
  ∃ W', (Builtin.delete_ #[tm, tk] ty #[.map (some r), ke k]).run P W = .ok (.tuple #[]) W' ∧ W.grownBy W' (some r) ∧ W'.heap.size = W.heap.size ∧ IsMap ke ve W' r (delE k es) c ∧ Once (delE k es) ∧ Borns (delE k es) c := by
 have hl : r < W.heap.size := (Array.getElem?_eq_some_iff.1 h1).1
 refine ⟨_, run_delete hk h1 h2 k ty, ?_, by simp, World.putObj_heap_same hl, h2.del k, h3.del k⟩
 exact ⟨rfl, rfl, rfl, by simp, fun j hj hne => World.putObj_heap_other (fun e => hne (by rw [e]))⟩

omit [DecidableEq K] hk in
theorem nodup_inj {α β : Type} (f : α → β) : ∀ (l : List α), (l.map f).Nodup → ∀ a ∈ l, ∀ b ∈ l, f a = f b → a = b
 | [], _, _, ha, _, _, _ => by cases ha
 | x :: l, h, a, ha, b, hb, e => by
  simp only [List.map_cons, List.nodup_cons] at h
  rcases List.mem_cons.1 ha with rfl | ha' <;> rcases List.mem_cons.1 hb with rfl | hb'
  ·rfl
  ·exact absurd (by rw [e]; exact List.mem_map_of_mem hb') h.1
  ·exact absurd (by rw [← e]; exact List.mem_map_of_mem ha') h.1
  ·exact nodup_inj f l h.2 a ha' b hb' e
omit hk in
theorem getE_filter {es : Ents K V} (ho : Once es) (p : V → Bool) (k : K) : getE (es.filter fun e => p e.2.1) k = (getE es k).filter p := by
 unfold getE Once at *
 induction es with
 | nil => rfl
 | cons e es ih =>
  simp only [List.map_cons, List.nodup_cons] at ho
  simp only [List.filter_cons, List.find?_cons]
  by_cases h : e.1 = k
  ·subst h
   by_cases hp : p e.2.1 = true
   ·simp [hp, Option.filter]
   ·have hn : (es.filter fun e => p e.2.1).find? (fun a => decide (a.1 = e.1)) = none := by
     rw [List.find?_eq_none]
     intro a ha
     have := (List.mem_filter.1 ha).1
     simp only [decide_eq_true_eq]
     exact fun h => ho.1 (by rw [← h]; exact List.mem_map_of_mem this)
    simp [hp, hn, Option.filter]
  ·by_cases hp : p e.2.1 = true
   ·simp only [hp, if_true, List.find?_cons, h, decide_false]; exact ih ho.2
   ·simp only [hp, h, decide_false]; exact ih ho.2
omit hk in
/-- which entries are left when those that were met and are bad have been taken out -/
def keepE (bad : V → Bool) (seen : Array Nat) (e : K × V × Nat) : Bool := !(decide (e.2.2 ∈ seen) && bad e.2.1)
omit hk in
theorem keep_del {es : Ents K V} {c : Nat} (ho : Once es) (hb : Borns es c) (bad : V → Bool) (seen : Array Nat) {e : K × V × Nat} (he : e ∈ es) (hx : bad e.2.1 = true) :
  delE e.1 (es.filter (keepE bad seen)) = es.filter (keepE bad (seen.push e.2.2)) := by
 unfold delE
 rw [List.filter_filter]
 refine List.filter_congr fun a ha => ?_
 by_cases h : a = e
 ·subst h
  simp [keepE, hx]
 ·have h1 : a.1 ≠ e.1 := fun h' => h (nodup_inj _ es ho a ha e he h')
  have h2 : a.2.2 ≠ e.2.2 := fun h' => h (nodup_inj _ es hb.1 a ha e he h')
  simp [keepE, h1, h2]
omit [DecidableEq K] hk in
theorem keep_same {es : Ents K V} {c : Nat} (hb : Borns es c) (bad : V → Bool) (seen : Array Nat) {e : K × V × Nat} (he : e ∈ es) (hx : bad e.2.1 = false) :
  es.filter (keepE bad seen) = es.filter (keepE bad (seen.push e.2.2)) := by
 refine List.filter_congr fun a ha => ?_
 by_cases h : a = e
 ·subst h
  simp [keepE, hx]
 ·have h2 : a.2.2 ≠ e.2.2 := fun h' => h (nodup_inj _ es hb.1 a ha e he h')
  simp [keepE, h2]
omit [DecidableEq K] hk in
theorem keep_done {es : Ents K V} (bad : V → Bool) (seen : Array Nat) (hs : ∀ e ∈ es.filter (keepE bad seen), e.2.2 ∈ seen) :
  es.filter (keepE bad seen) = es.filter fun e => !(bad e.2.1) := by
 refine List.filter_congr fun a ha => ?_
 by_cases hb : bad a.2.1 = true
 ·by_cases h : a.2.2 ∈ seen
  ·simp [keepE, h]
  ·have := hs a (List.mem_filter.2 ⟨ha, by simp [keepE, h]⟩)
   exact absurd this h
 ·simp [keepE, hb]
/-- how many entries have not been met yet, read off the world -/
def unmet (es : Ents K V) (it : Nat) (W : World) : Nat :=
 match W.heap[it]? with
 | some (.mapIter _ _ seen _) => (es.filter fun e => decide (e.2.2 ∉ seen)).length
 | _ => 0
omit [DecidableEq K] hk in
theorem unmet_lt {es : Ents K V} {seen : Array Nat} {e : K × V × Nat} (he : e ∈ es) (hs : e.2.2 ∉ seen) :
  (es.filter fun a => decide (a.2.2 ∉ seen.push e.2.2)).length < (es.filter fun a => decide (a.2.2 ∉ seen)).length := by
 have e1 : (es.filter fun a => decide (a.2.2 ∉ seen.push e.2.2)) = (es.filter fun a => decide (a.2.2 ∉ seen)).filter fun a => decide (a.2.2 ≠ e.2.2) := by
  rw [List.filter_filter]
  refine List.filter_congr fun a _ => ?_
  simp only [Array.mem_push, not_or]
  rw [Bool.eq_iff_iff]; simp; exact and_comm
 rw [e1]
 refine List.length_filter_lt_length_iff_exists.2 ⟨e, List.mem_filter.2 ⟨he, by simpa using hs⟩, by simp⟩
end
end Go.Proofs.Ytphajlldghcnnaa
