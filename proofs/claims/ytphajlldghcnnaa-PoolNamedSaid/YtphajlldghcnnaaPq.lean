/-
 The reference: Alone and Has.
 The reference: isBet.
 The reference: CheckBook.
 The reference: FavouriteOf and Favourite.
 The reference: Scratch.
-/
import Derived.Test.YtphajlldghcnnaaPc
import Derived.Test.YtphajlldghcnnaaPd
import Derived.Test.YtphajlldghcnnaaPg
import Derived.Test.YtphajlldghcnnaaPm
namespace Go.Proofs.Ytphajlldghcnnaa
open Go.RowKit Go.Shelf
set_option maxRecDepth 100000 in
set_option maxHeartbeats 1000000 in
theorem alone_any (k : Int) (w : World) : Calls Try.prog 90 #[.int .i64 k] w fun e w' => e = .returned (.bool (decide (k = 0) || decide (k = 1))) ∧ Ext w w' := by
 go_enter Try.func90, Try.ntmps90
 by_cases h0 : k = 0
 ·subst h0
  go_wp2_with fail
  go_ret
  exact ⟨rfl, by exact xx⟩
 ·by_cases h1 : k = 1
  ·subst h1
   go_wp2_with fail
   go_ret
   exact ⟨rfl, by exact xx⟩
  ·have e0 : (k == 0) = false := by simpa using h0
   have e1 : (k == 1) = false := by simpa using h1
   have HH : Hid ((decide (k = 0) || decide (k = 1)) = false) := Lib.hid (by simp [h0, h1])
   rw [HH.out]
   go_wp2_with fail
   go_ret
   exact ⟨rfl, by exact xx⟩
set_option maxRecDepth 100000 in
set_option maxHeartbeats 1000000 in
theorem has_any (l : List Int) (n : Int) (v : Value) (w : World) (hv : IsInts w .i64 v l) : Calls Try.prog 49 #[v, .int .i64 n] w fun e w' => e = .returned (.bool (l.contains n)) ∧ Ext w w' := by
 obtain ⟨va, cap, rfl, h1, h2, hc⟩ := hv.spec
 have HC := Lib.hid hc
 clear hc hv
 go_enter Try.func49, Try.ntmps49
 go_wp2_with fail
 go_loopw [5] (fun iv W => ∃ k : Nat, k ≤ l.length ∧ iv = .int .i64 k ∧ n ∉ l.take k ∧ Ext w W) (fun iv _ => l.length - (intOf iv).toNat)
 case atStart => exact ⟨0, by omega, rfl, by simp, by exact xx⟩
 case round =>
  obtain ⟨k, hk, rfl, hno, hE⟩ := hrel
  have HE := Lib.hid hE
  have HNO := Lib.hid hno
  by_cases hlt : k < l.length
  ·have hki : (k : Int) < (l.length : Int) := by omega
   rcases HC.out with hc | ⟨b, off, rfl, hc⟩
   ·rw [hc] at hlt; simp at hlt
   have ck := cell_ext hE (hc k hlt)
   have hzk := World.block_lt_of_cell? _ _ ck
   simp only at hzk
   obtain ⟨y, hy⟩ : ∃ y, y = l[k] := ⟨_, rfl⟩
   rw [← hy] at ck
   by_cases he : y = n
   ·subst he
    have HM : Hid (l.contains y = true) := Lib.hid (by rw [List.contains_iff_mem, hy]; exact List.getElem_mem hlt)
    have HD : Hid (decide (y ∈ l) = true) := Lib.hid (by rw [hy]; exact decide_eq_true (List.getElem_mem hlt))
    clear hc hy hno hE
    go_wp2_with fail
    go_ret
    exact ⟨by first | (rw [HM.out]; rfl) | (rw [HD.out]; rfl), HE.out⟩
   ·have e1 : (y == n) = false := by simpa using he
    have hno2 : n ∉ l.take (k + 1) := by
     rw [List.take_add_one, List.getElem?_eq_getElem hlt, ← hy]
     simp only [Option.toList_some, List.mem_append, List.mem_singleton, not_or]
     exact ⟨hno, fun h => he h.symm⟩
    have HN2 := Lib.hid hno2
    clear hc hy hno hno2 hE
    go_wp2_with fail
    go_roundw
    case rel => exact ⟨k + 1, by omega, by go_num, HN2.out, HE.out⟩
    case measure => simp [intOf]; omega
  ·have hki : ¬ ((k : Int) < (l.length : Int)) := by omega
   have hke : k = l.length := by omega
   have HM : Hid (l.contains n = false) := Lib.hid (by
    rw [hke, List.take_length] at hno
    cases h : l.contains n
    ·rfl
    ·exact absurd (List.contains_iff_mem.1 h) hno)
   have HD : Hid (decide (n ∈ l) = false) := Lib.hid (by rw [hke, List.take_length] at hno; exact decide_eq_false hno)
   clear hke hno hE
   go_wp2_with fail
   go_ret
   exact ⟨by first | (rw [HM.out]; rfl) | (rw [HD.out]; rfl), HE.out⟩
end Go.Proofs.Ytphajlldghcnnaa
namespace Go.Proofs.Ytphajlldghcnnaa
open Go.RowKit Go.Shelf
def isB (b : Bk) (x : PB) : Bool :=
 if x.u < 1 ∨ 1000 < x.u ∨ x.f < 0 ∨ b.n ≤ x.f then false
 else if single b = true then decide (x.s = -1)
 else if x.s < 0 ∨ b.n ≤ x.s ∨ x.s = x.f then false
 else decide (b.kd = 2) || decide (x.f < x.s)
theorem isB_odd {b : Bk} (hk : 0 ≤ b.kd ∧ b.kd ≤ 3) (x : PB) : isB b x = !oddB b x := by
 have e1 : (inR 1 1000 x.u = false ∨ isRun b.n x.f = false) ↔ (x.u < 1 ∨ 1000 < x.u ∨ x.f < 0 ∨ b.n ≤ x.f) := by
  unfold inR isRun
  simp only [Bool.not_eq_false', Bool.or_eq_true, decide_eq_true_eq]
  omega
 have e2 : (isRun b.n x.s = false ∨ x.f = x.s) ↔ (x.s < 0 ∨ b.n ≤ x.s ∨ x.s = x.f) := by
  unfold isRun
  simp only [Bool.not_eq_false', Bool.or_eq_true, decide_eq_true_eq]
  omega
 unfold isB oddB
 by_cases h1 : x.u < 1 ∨ 1000 < x.u ∨ x.f < 0 ∨ b.n ≤ x.f
 ·rw [if_pos h1, if_pos (e1.2 h1)]; rfl
 rw [if_neg h1, if_neg (fun h => h1 (e1.1 h))]
 by_cases hs : single b = true
 ·rw [if_pos hs, if_pos hs, Bool.not_not]
 rw [if_neg hs, if_neg hs]
 by_cases h2 : x.s < 0 ∨ b.n ≤ x.s ∨ x.s = x.f
 ·rw [if_pos h2, if_pos (e2.2 h2)]; rfl
 rw [if_neg h2, if_neg (fun h => h2 (e2.1 h))]
 unfold single at hs
 simp only [Bool.or_eq_true, decide_eq_true_eq, not_or] at hs
 by_cases h3 : b.kd = 2
 ·have h4 : ¬ (b.kd = 3) := by omega
  rw [decide_eq_true h3, decide_eq_false h4]; rfl
 ·have h4 : b.kd = 3 := by omega
  rw [decide_eq_false h3, decide_eq_true h4]
  by_cases h5 : x.f < x.s
  ·rw [decide_eq_true h5, decide_eq_false (show ¬ x.s < x.f by omega)]; rfl
  ·rw [decide_eq_false h5, decide_eq_true (show x.s < x.f by omega)]; rfl
set_option maxRecDepth 100000 in
set_option maxHeartbeats 4000000 in
theorem isBet_any (b : Bk) (ba sa : Option Addr) (bcap scap : Nat) (x : PB) (w : World) :
  Calls Try.prog 65 #[.agg #[.int .i64 b.kd, .int .i64 b.n, .slice ba b.bets.length bcap, .slice sa b.scr.length scap, .bool b.fav, .int .i64 b.car, .int .i64 b.duty, .int .i64 b.step], .agg #[.int .i64 x.f, .int .i64 x.s, .int .i64 x.u]] w fun e w' => e = .returned (.bool (isB b x)) ∧ Ext w w' := by
 go_enter Try.func65, Try.ntmps65
 have hI : ∀ c : Bool, isB b x = c → Hid (isB b x = c) := fun _ h => Lib.hid h
 by_cases h1 : x.u < 1
 ·have hA : isB b x = false := by unfold isB; rw [if_pos (.inl h1)]
  have HA := hI _ hA
  clear hA
  go_wp2_with fail
  go_ret
  exact ⟨by rw [HA.out]; rfl, by exact xx⟩
 by_cases h2 : 1000 < x.u
 ·have hA : isB b x = false := by unfold isB; rw [if_pos (.inr (.inl h2))]
  have HA := hI _ hA
  clear hA
  go_wp2_with fail
  go_ret
  exact ⟨by rw [HA.out]; rfl, by exact xx⟩
 by_cases h3 : x.f < 0
 ·have hA : isB b x = false := by unfold isB; rw [if_pos (.inr (.inr (.inl h3)))]
  have HA := hI _ hA
  clear hA
  go_wp2_with fail
  go_ret
  exact ⟨by rw [HA.out]; rfl, by exact xx⟩
 by_cases h4 : b.n ≤ x.f
 ·have hA : isB b x = false := by unfold isB; rw [if_pos (.inr (.inr (.inr h4)))]
  have HA := hI _ hA
  clear hA
  go_wp2_with fail
  go_ret
  exact ⟨by rw [HA.out]; rfl, by exact xx⟩
 have hn : ¬ (x.u < 1 ∨ 1000 < x.u ∨ x.f < 0 ∨ b.n ≤ x.f) := by omega
 go_wp2_with fail
 refine (alone_any b.kd _).mono ?_
 rintro e W1 ⟨rfl, hE1⟩
 rw [show (decide (b.kd = 0) || decide (b.kd = 1)) = single b from rfl]
 have k0 : W1.cell? ⟨w.heap.size, 0, none⟩ = some (.int .i64 b.kd) := cell_ext hE1 (by simp [go_sem])
 have k1 : W1.cell? ⟨w.heap.size, 1, none⟩ = some (.int .i64 b.n) := cell_ext hE1 (by simp [go_sem])
 have x0 : W1.cell? ⟨w.heap.size + 1, 0, none⟩ = some (.int .i64 x.f) := cell_ext hE1 (by simp [go_sem])
 have x1 : W1.cell? ⟨w.heap.size + 1, 1, none⟩ = some (.int .i64 x.s) := cell_ext hE1 (by simp [go_sem])
 have hz := hE1.size
 simp only [World.size_alloc] at hz
 have HE := Lib.hid (Ext.trans' (by exact xx) hE1 : Ext w W1)
 clear hE1
 cases hs : single b
 case true =>
  have hA : isB b x = decide (x.s = -1) := by unfold isB; rw [if_neg hn, if_pos hs]
  have HA := hI _ hA
  clear hA hs hn
  by_cases h5 : x.s = -1
  ·have e5 : (x.s == -1) = true := by rw [h5]; rfl
   have HC := Lib.hid (decide_eq_true h5)
   clear h5
   go_wp2_with fail
   go_ret
   exact ⟨by rw [HA.out, HC.out]; rfl, HE.out⟩
  ·have e5 : (x.s == -1) = false := beq_eq_false_iff_ne.2 h5
   have HC := Lib.hid (decide_eq_false h5)
   go_wp2_with fail
   go_ret
   exact ⟨by rw [HA.out, HC.out]; rfl, HE.out⟩
 case false =>
 have hs2 : ¬ single b = true := by rw [hs]; decide
 have hB : isB b x = if x.s < 0 ∨ b.n ≤ x.s ∨ x.s = x.f then false else decide (b.kd = 2) || decide (x.f < x.s) := by unfold isB; rw [if_neg hn, if_neg hs2]
 have HB := Lib.hid hB
 clear hB hs hs2 hn
 by_cases h5 : x.s < 0
 ·have HA := hI false (by rw [HB.out, if_pos (.inl h5)])
  go_wp2_with fail
  go_ret
  exact ⟨by rw [HA.out]; rfl, HE.out⟩
 by_cases h6 : b.n ≤ x.s
 ·have HA := hI false (by rw [HB.out, if_pos (.inr (.inl h6))])
  go_wp2_with fail
  go_ret
  exact ⟨by rw [HA.out]; rfl, HE.out⟩
 by_cases h7 : x.s = x.f
 ·have HA := hI false (by rw [HB.out, if_pos (.inr (.inr h7))])
  have e7 : (x.s == x.f) = true := by rw [h7]; exact beq_self_eq_true _
  go_wp2_with fail
  go_ret
  exact ⟨by rw [HA.out]; rfl, HE.out⟩
 have e7 : (x.s == x.f) = false := beq_eq_false_iff_ne.2 h7
 by_cases h8 : b.kd = 2
 ·have HA := hI true (by rw [HB.out, if_neg (by omega), decide_eq_true h8]; rfl)
  rw [h8] at k0
  clear h8
  go_wp2_with fail
  go_ret
  exact ⟨by rw [HA.out]; rfl, HE.out⟩
 have e8 : (b.kd == 2) = false := beq_eq_false_iff_ne.2 h8
 by_cases h9 : x.f < x.s
 ·have HA := hI true (by rw [HB.out, if_neg (by omega), decide_eq_true h9, Bool.or_true])
  go_wp2_with fail
  go_ret
  exact ⟨by rw [HA.out]; rfl, HE.out⟩
 ·have HA := hI false (by rw [HB.out, if_neg (by omega), decide_eq_false h8, decide_eq_false h9]; rfl)
  have HD := Lib.hid (decide_eq_false h9)
  go_wp2_with fail
  go_ret
  exact ⟨congrArg (fun c => Ending.returned (.bool c)) (HD.out.trans HA.out.symm), HE.out⟩
end Go.Proofs.Ytphajlldghcnnaa
namespace Go.Proofs.Ytphajlldghcnnaa
open Go.RowKit Go.Shelf
structure BkR (b : Bk) : Prop where
 kd : 0 ≤ b.kd ∧ b.kd ≤ 3
 n : 2 ≤ b.n ∧ b.n ≤ 8
 car : 0 ≤ b.car ∧ b.car ≤ 1000000
 duty : 0 ≤ b.duty ∧ b.duty ≤ 500
 step : 1 ≤ b.step ∧ b.step ≤ 100
theorem inR_no {lo hi n : Int} (h : n < lo ∨ hi < n) : inR lo hi n = false := by
 rw [Bool.eq_false_iff]; intro e; rw [inR_iff] at e; omega
theorem inR_yes {lo hi n : Int} (h : lo ≤ n ∧ n ≤ hi) : ¬ inR lo hi n = false := by rw [inR_iff.2 h]; simp
theorem bk2 {b : Bk} (h : b.kd < 0 ∨ 3 < b.kd) : bkErr b = 2 := by unfold bkErr; rw [if_pos (inR_no h)]
theorem bk3 {b : Bk} (hk : 0 ≤ b.kd ∧ b.kd ≤ 3) (h : (b.n < 2 ∨ 8 < b.n) ∨ (b.car < 0 ∨ 1000000 < b.car) ∨ (b.duty < 0 ∨ 500 < b.duty) ∨ (b.step < 1 ∨ 100 < b.step)) : bkErr b = 3 := by
 unfold bkErr
 rw [if_neg (inR_yes hk), if_pos (h.imp inR_no fun h => h.imp inR_no fun h => h.imp inR_no inR_no)]
theorem BkR.no {b : Bk} (r : BkR b) : ¬ (inR 2 8 b.n = false ∨ inR 0 1000000 b.car = false ∨ inR 0 500 b.duty = false ∨ inR 1 100 b.step = false) := by
 rw [inR_iff.2 r.n, inR_iff.2 r.car, inR_iff.2 r.duty, inR_iff.2 r.step]; simp
theorem bk6 {b : Bk} (r : BkR b) (h : 100 < b.bets.length) : bkErr b = 6 := by
 unfold bkErr
 rw [if_neg (inR_yes r.kd), if_neg r.no, if_pos h]
theorem bk16 {b : Bk} (r : BkR b) (h : b.bets.length ≤ 100) {x : PB} (hx : x ∈ b.bets) (ho : isB b x = false) : bkErr b = 16 := by
 unfold bkErr
 rw [isB_odd r.kd] at ho
 rw [if_neg (inR_yes r.kd), if_neg r.no, if_neg (by omega), if_pos (List.any_eq_true.2 ⟨x, hx, by simpa using ho⟩)]
theorem all_odd {b : Bk} (r : BkR b) (hb : ∀ x ∈ b.bets, isB b x = true) : ¬ b.bets.any (oddB b) = true := by
 intro h
 obtain ⟨x, hx, ho⟩ := List.any_eq_true.1 h
 have := hb x hx
 rw [isB_odd r.kd, ho] at this
 cases this
theorem bk15 {b : Bk} (r : BkR b) (h : b.bets.length ≤ 100) (hb : ∀ x ∈ b.bets, isB b x = true) (hs : b.n - 2 < (b.scr.length : Int) ∨ ∃ i, i < b.scr.length ∧ ((gt b.scr i < 0 ∨ b.n ≤ gt b.scr i) ∨ flat b.scr i = true)) : bkErr b = 15 := by
 unfold bkErr
 rw [if_neg (inR_yes r.kd), if_neg r.no, if_neg (by omega), if_neg (all_odd r hb), if_pos]
 rcases hs with hs | ⟨i, hi, hs | hs⟩
 ·exact .inl hs
 ·refine .inr (.inl ?_)
  rw [Bool.eq_false_iff]
  intro he
  have := isRun_iff.1 (List.all_eq_true.1 he _ (List.getElem_mem hi))
  rw [gt_get hi] at this
  omega
 ·refine .inr (.inr ?_)
  unfold rising
  rw [List.any_eq_true.2 ⟨i, List.mem_range.2 hi, hs⟩]
  rfl
theorem bk0 {b : Bk} (r : BkR b) (h : b.bets.length ≤ 100) (hb : ∀ x ∈ b.bets, isB b x = true) (hl : (b.scr.length : Int) ≤ b.n - 2) (hs : ∀ i, i < b.scr.length → (0 ≤ gt b.scr i ∧ gt b.scr i < b.n) ∧ flat b.scr i = false) : bkErr b = 0 := by
 unfold bkErr
 rw [if_neg (inR_yes r.kd), if_neg r.no, if_neg (by omega), if_neg (all_odd r hb), if_neg]
 rintro (h1 | h1 | h1)
 ·omega
 ·rw [List.all_eq_true.2 fun x hx => ?_] at h1
  ·cases h1
  ·obtain ⟨i, hi, rfl⟩ := List.getElem_of_mem hx
   rw [gt_get hi]
   exact isRun_iff.2 (hs i hi).1
 ·unfold rising at h1
  rw [List.any_eq_false.2 fun i hi => by rw [(hs i (List.mem_range.1 hi)).2]; simp] at h1
  cases h1
set_option maxRecDepth 100000 in
set_option maxHeartbeats 4000000 in
theorem refCheck_any (b : Bk) (ba sa : Option Addr) (bcap scap : Nat) (w : World) (hv : IsBook w b ba bcap sa scap) :
  Calls Try.prog 24 #[.agg #[.int .i64 b.kd, .int .i64 b.n, .slice ba b.bets.length bcap, .slice sa b.scr.length scap, .bool b.fav, .int .i64 b.car, .int .i64 b.duty, .int .i64 b.step]] w fun e w' => e = .returned (.int .i64 (bkErr b)) ∧ Ext w w' := by
 obtain ⟨⟨q1, q2⟩, q3, q4⟩ := hv.caps
 have HV := Lib.hid hv
 clear hv
 go_enter Try.func24, Try.ntmps24
 go_upto_region 1 with (fail)
 obtain ⟨W0, hW0⟩ : ∃ W0, W0 = w.alloc (.cells #[.int .i64 b.kd, .int .i64 b.n, .slice ba b.bets.length bcap, .slice sa b.scr.length scap, .bool b.fav, .int .i64 b.car, .int .i64 b.duty, .int .i64 b.step] 25) := ⟨_, rfl⟩
 have hE : Ext w W0 := by rw [hW0]; exact xx
 have k0 : W0.cell? ⟨w.heap.size, 0, none⟩ = some (.int .i64 b.kd) := by rw [hW0]; simp [go_sem]
 have k1 : W0.cell? ⟨w.heap.size, 1, none⟩ = some (.int .i64 b.n) := by rw [hW0]; simp [go_sem]
 have k2 : W0.cell? ⟨w.heap.size, 2, none⟩ = some (.slice ba b.bets.length bcap) := by rw [hW0]; simp [go_sem]
 have k3 : W0.cell? ⟨w.heap.size, 3, none⟩ = some (.slice sa b.scr.length scap) := by rw [hW0]; simp [go_sem]
 have k4 : W0.cell? ⟨w.heap.size, 4, none⟩ = some (.bool b.fav) := by rw [hW0]; simp [go_sem]
 have k5 : W0.cell? ⟨w.heap.size, 5, none⟩ = some (.int .i64 b.car) := by rw [hW0]; simp [go_sem]
 have k6 : W0.cell? ⟨w.heap.size, 6, none⟩ = some (.int .i64 b.duty) := by rw [hW0]; simp [go_sem]
 have k7 : W0.cell? ⟨w.heap.size, 7, none⟩ = some (.int .i64 b.step) := by rw [hW0]; simp [go_sem]
 have hz : w.heap.size < W0.heap.size := World.block_lt_of_cell? _ _ k0
 have HS := Lib.hid (HV.out.ext hE)
 have HW := Lib.hid hE
 rw [← hW0]
 clear hW0 HV
 clear hE
 by_cases h1 : b.kd < 0
 ·go_wp2_with fail
  go_ret
  exact ⟨ret_int (bk2 (.inl h1)).symm, HW.out⟩
 by_cases h2 : 3 < b.kd
 ·go_wp2_with fail
  go_ret
  exact ⟨ret_int (bk2 (.inr h2)).symm, HW.out⟩
 have hk : 0 ≤ b.kd ∧ b.kd ≤ 3 := by omega
 by_cases h3 : b.n < 2
 ·skip
  go_wp2_with fail
  go_ret
  exact ⟨ret_int (bk3 hk (.inl (.inl h3))).symm, HW.out⟩
 by_cases h4 : 8 < b.n
 ·skip
  go_wp2_with fail
  go_ret
  exact ⟨ret_int (bk3 hk (.inl (.inr h4))).symm, HW.out⟩
 by_cases h5 : b.car < 0
 ·skip
  go_wp2_with fail
  go_ret
  exact ⟨ret_int (bk3 hk (.inr (.inl (.inl h5)))).symm, HW.out⟩
 by_cases h6 : 1000000 < b.car
 ·skip
  go_wp2_with fail
  go_ret
  exact ⟨ret_int (bk3 hk (.inr (.inl (.inr h6)))).symm, HW.out⟩
 by_cases h7 : b.duty < 0
 ·skip
  go_wp2_with fail
  go_ret
  exact ⟨ret_int (bk3 hk (.inr (.inr (.inl (.inl h7))))).symm, HW.out⟩
 by_cases h8 : 500 < b.duty
 ·skip
  go_wp2_with fail
  go_ret
  exact ⟨ret_int (bk3 hk (.inr (.inr (.inl (.inr h8))))).symm, HW.out⟩
 by_cases h9 : b.step < 1
 ·skip
  go_wp2_with fail
  go_ret
  exact ⟨ret_int (bk3 hk (.inr (.inr (.inr (.inl h9))))).symm, HW.out⟩
 by_cases h10 : 100 < b.step
 ·skip
  go_wp2_with fail
  go_ret
  exact ⟨ret_int (bk3 hk (.inr (.inr (.inr (.inr h10))))).symm, HW.out⟩
 have R : BkR b := ⟨hk, by omega, by omega, by omega, by omega⟩
 by_cases h11 : 100 < b.bets.length
 ·have h11i : (100 : Int) < (b.bets.length : Int) := by omega
  have H11 := Lib.hid h11
  clear h11
  go_wp2_with fail
  go_ret
  exact ⟨ret_int (bk6 R H11.out).symm, HW.out⟩
 have h11i : ¬ ((100 : Int) < (b.bets.length : Int)) := by omega
 have hn1 := R.n
 have RR := Lib.hid R
 have H11 := Lib.hid (by omega : b.bets.length ≤ 100)
 clear R h11
 go_wp2_with fail
 clear h1 h2 h3 h4 h5 h6 h7 h8 h9 h10 hk
 obtain ⟨_, _, e0, -, -, hbc⟩ := HS.out.bets.spec
 cases e0
 obtain ⟨_, _, e0, -, -, hsc⟩ := HS.out.scr.spec
 cases e0
 have HBC := Lib.hid hbc
 have HSC := Lib.hid hsc
 clear hbc hsc
 go_loopw [3] (fun iv W => ∃ k : Nat, k ≤ b.bets.length ∧ iv = .int .i64 k ∧ (∀ x ∈ b.bets.take k, isB b x = true) ∧ Ext W0 W) (fun iv _ => b.bets.length - (intOf iv).toNat)
 case atStart => exact ⟨0, by omega, rfl, by simp, Below.refl _ _⟩
 case round =>
  obtain ⟨k, hk, rfl, hno, hE⟩ := hrel
  have HNO := Lib.hid hno
  have HE := Lib.hid hE
  have k0' := cell_ext hE k0
  have k1' := cell_ext hE k1
  have k2' := cell_ext hE k2
  have k3' := cell_ext hE k3
  have k4' := cell_ext hE k4
  have k5' := cell_ext hE k5
  have k6' := cell_ext hE k6
  have k7' := cell_ext hE k7
  have hz' := World.block_lt_of_cell? _ _ k0'
  simp only at hz'
  by_cases hlt : k < b.bets.length
  ·have hki : (k : Int) < (b.bets.length : Int) := by omega
   rcases HBC.out with hc | ⟨bb, off, rfl, hc⟩
   ·rw [hc] at hlt; simp at hlt
   have d0 := cell_ext hE (hc k hlt).1
   have d1 := cell_ext hE (hc k hlt).2.1
   have d2 := cell_ext hE (hc k hlt).2.2
   have hzd := World.block_lt_of_cell? _ _ d0
   simp only at hzd
   obtain ⟨x, hx⟩ : ∃ x, x = b.bets[k] := ⟨_, rfl⟩
   rw [← hx] at d0 d1 d2
   have HX := Lib.hid hx
   clear hno hE hc hx k0 k1 k2 k3 k4 k5 k6 k7
   go_upto_region 10 with (fail)
   refine wp_region_grow (by kernel_rfl) (by kernel_rfl) ?_
   repeat (first | go_big_quiet_step ((go_at_call 65; exact grow_call (isBet_any b _ sa bcap scap x _))) | quiet_step ((go_at_call 65; exact grow_call (isBet_any b _ sa bcap scap x _))))
   refine wpQuiet_nil ?_
   rintro _ ⟨g, rfl⟩
   cases hb : isB b x
   ·go_wp2_with fail
    go_ret
    exact ⟨ret_int (bk16 RR.out H11.out (by rw [HX.out]; exact List.getElem_mem hlt) hb).symm, (HW.out.trans' HE.out).trans' (grow_below wr g)⟩
   ·have HB := Lib.hid hb
    clear hb
    go_wp2_with fail
    go_roundw
    case rel =>
     refine ⟨k + 1, by omega, by go_num, fun y hy => ?_, HE.out.trans' (grow_below wr g)⟩
     rw [List.take_add_one, List.getElem?_eq_getElem hlt] at hy
     rcases List.mem_append.1 hy with h | h
     ·exact HNO.out y h
     ·simp at h
      rw [h, ← HX.out]; exact HB.out
    case measure => simp [intOf]; omega
  ·have hki : ¬ ((k : Int) < (b.bets.length : Int)) := by omega
   have hall : ∀ x ∈ b.bets, isB b x = true := by
    have : k = b.bets.length := by omega
    rw [this, List.take_length] at hno
    exact hno
   have HALL := Lib.hid hall
   have hwn : IntKind.i64.wrap (b.n - 2) = b.n - 2 := IntWalk.i64_in _ (by omega)
   clear hno hE hall k0 k1 k2 k3 k4 k5 k6 k7
   by_cases h8 : b.n - 2 < (b.scr.length : Int)
   ·have H8 := Lib.hid h8
    go_wp2_with fail
    go_ret
    exact ⟨ret_int (bk15 RR.out H11.out HALL.out (.inl H8.out)).symm, HW.out.trans' HE.out⟩
   obtain ⟨Wa, rfl⟩ : ∃ Wa, Wa = wr := ⟨_, rfl⟩
   go_wp2_with fail
   go_loopw [4] (fun iv W => ∃ j : Nat, j ≤ b.scr.length ∧ iv = .int .i64 j ∧ (∀ i, i < j → (0 ≤ gt b.scr i ∧ gt b.scr i < b.n) ∧ flat b.scr i = false) ∧ Ext Wa W) (fun iv _ => b.scr.length - (intOf iv).toNat)
   case atStart => exact ⟨0, by omega, rfl, fun i hi => by omega, Below.refl _ _⟩
   case round =>
    obtain ⟨j, hj, rfl, hno, hE⟩ := hrel
    have HNO := Lib.hid hno
    have HE2 := Lib.hid hE
    have k0 := cell_ext hE k0'
    have k1 := cell_ext hE k1'
    have k3 := cell_ext hE k3'
    have hz2 := World.block_lt_of_cell? _ _ k1
    simp only at hz2
    clear hno k0' k1' k2' k3' k4' k5' k6' k7'
    have HF := Lib.hid (HW.out.trans' HE.out)
    by_cases hlt2 : j < b.scr.length
    ·have hji : (j : Int) < (b.scr.length : Int) := by omega
     rcases HSC.out with hc | ⟨sb, off, rfl, hc⟩
     ·rw [hc] at hlt2; simp at hlt2
     have d0 := cell_ext (HE.out.trans' hE) (hc j hlt2)
     rw [gt_get] at d0
     obtain ⟨y, hy⟩ : ∃ y, y = gt b.scr j := ⟨_, rfl⟩
     rw [← hy] at d0
     have HY := Lib.hid hy
     have HSC2 := Lib.hid hc
     have hze := World.block_lt_of_cell? _ _ d0
     simp only at hze
     clear hy hc
     by_cases hy0 : y < 0
     ·clear hE
      go_upto_region 17 with (fail)
      go_quiet (fail)
      go_wp2_with fail
      go_ret
      exact ⟨ret_int (bk15 RR.out H11.out HALL.out (.inr ⟨j, hlt2, .inl (.inl (by rw [← HY.out]; exact hy0))⟩)).symm, (HF.out.trans' HE2.out).drN _⟩
     by_cases hyn : b.n ≤ y
     ·clear hE
      go_upto_region 17 with (fail)
      go_quiet (fail)
      go_wp2_with fail
      go_ret
      exact ⟨ret_int (bk15 RR.out H11.out HALL.out (.inr ⟨j, hlt2, .inl (.inr (by rw [← HY.out]; exact hyn))⟩)).symm, (HF.out.trans' HE2.out).drN _⟩
     by_cases hj0 : j = 0
     ·have hd : decide ((0 : Int) < (j : Int)) = false := decide_eq_false (by omega)
      have hd2 : decide (0 < j) = false := decide_eq_false (by omega)
      have hf : flat b.scr j = false := by unfold flat; rw [decide_eq_false (by omega)]; rfl
      have HFL := Lib.hid hf
      clear hE hf hj0
      go_upto_region 17 with (fail)
      go_quiet (fail)
      go_wp2_with fail
      go_roundw
      case rel =>
       refine ⟨j + 1, by omega, by go_num, fun i hi => ?_, HE2.out.drN _⟩
       by_cases e : i = j
       ·rw [e, ← HY.out]; exact ⟨by omega, HFL.out⟩
       ·exact HNO.out i (by omega)
      case measure => simp [intOf]; omega
     ·obtain ⟨p, rfl⟩ : ∃ p, j = p + 1 := ⟨j - 1, by omega⟩
      have hd : decide ((0 : Int) < ((p + 1 : Nat) : Int)) = true := decide_eq_true (by omega)
      have hw1 : IntKind.i64.wrap (((p + 1 : Nat) : Int) - 1) = (p : Int) := by rw [IntWalk.i64_in _ (by omega)]; omega
      have hpi : (p : Int) < (b.scr.length : Int) := by omega
      have d1 := cell_ext (HE.out.trans' hE) (HSC2.out p (by omega))
      rw [gt_get] at d1
      obtain ⟨x, hx⟩ : ∃ x, x = gt b.scr p := ⟨_, rfl⟩
      rw [← hx] at d1
      have hfl : flat b.scr (p + 1) = decide (y ≤ x) := by unfold flat; rw [decide_eq_true (by omega), Bool.true_and, Nat.add_sub_cancel, hx, HY.out]
      have HFL := Lib.hid hfl
      clear hE hfl hx hj0
      by_cases hyx : y ≤ x
      ·go_upto_region 17 with (fail)
       go_quiet (fail)
       go_wp2_with fail
       go_ret
       exact ⟨ret_int (bk15 RR.out H11.out HALL.out (.inr ⟨p + 1, hlt2, .inr (by rw [HFL.out]; exact decide_eq_true hyx)⟩)).symm, (HF.out.trans' HE2.out).drN _⟩
      ·have HYX := Lib.hid hyx
       go_upto_region 17 with (fail)
       go_quiet (fail)
       go_wp2_with fail
       go_roundw
       case rel =>
        refine ⟨p + 1 + 1, by omega, by go_num, fun i hi => ?_, HE2.out.drN _⟩
        by_cases e : i = p + 1
        ·rw [e, ← HY.out]; exact ⟨by omega, by rw [HFL.out]; exact decide_eq_false HYX.out⟩
        ·exact HNO.out i (by omega)
       case measure => simp [intOf]; omega
    ·have hji : ¬ ((j : Int) < (b.scr.length : Int)) := by omega
     have hjl : j = b.scr.length := by omega
     have H0 := Lib.hid (bk0 RR.out H11.out HALL.out (by omega) (by rw [← hjl]; exact HNO.out))
     clear hE hjl
     go_wp2_with fail
     go_ret
     exact ⟨ret_int H0.out.symm, HF.out.trans' HE2.out⟩
end Go.Proofs.Ytphajlldghcnnaa
namespace Go.Proofs.Ytphajlldghcnnaa
open Go.RowKit Go.Shelf
def refG (b : Bk) (r : Int) (x : PB) : Int := if x.f = r ∧ outB b x.s = false then x.u else 0
theorem refG_on {b : Bk} {r : Int} (h : outB b r = false) : sumB (refG b r) b.bets = sumsP b r := sumB_congr fun x _ => by
 unfold refG onF
 by_cases e : x.f = r
 ·rw [e]; simp [h]
 ·simp [e]
theorem refG_bd {b : Bk} (v : BVal b) (r : Int) (k : Nat) : 0 ≤ sumB (refG b r) (b.bets.take k) ∧ sumB (refG b r) (b.bets.take k) ≤ 100000 := by
 have h := sumB_bd (g := refG b r) (c := 1000) (by omega) (l := b.bets.take k) fun x hx => by
  have := (v.bet (List.mem_of_mem_take hx)).1
  unfold refG; split <;> omega
 have h2 := v.many
 have h3 : (b.bets.take k).length ≤ 100 := by rw [List.length_take]; omega
 omega
theorem mostL_snoc (g : Int → Int) : ∀ (l : List Int) (a x : Int), mostL g a (l ++ [x]) = if g (mostL g a l) < g x then x else mostL g a l
 | [], a, x => rfl
 | y :: l, a, x => by
  rw [List.cons_append, mostL, mostL_snoc g l]
  rfl
def bestR (b : Bk) (k : Nat) : Int := if runK b k = [] then -1 else mostL (sumsP b) ((runK b k).headD 0) (runK b k)
def mostR (b : Bk) (k : Nat) : Int := if runK b k = [] then 0 else sumsP b (bestR b k)
theorem runK_mem {b : Bk} {k : Nat} {r : Int} (h : r ∈ runK b k) : 0 ≤ r := by
 unfold runK at h
 obtain ⟨i, _, rfl⟩ := List.mem_map.1 (List.mem_filter.1 h).1
 omega
theorem bestR_pos {b : Bk} {k : Nat} (h : runK b k ≠ []) : 0 ≤ bestR b k := by
 unfold bestR
 rw [if_neg h]
 rcases hl : runK b k with _ | ⟨a, l⟩
 ·exact absurd hl h
 ·rcases mostL_mem (sumsP b) (a :: l) ((a :: l).headD 0) with e | e
  ·rw [e]
   exact runK_mem (b := b) (k := k) (by rw [hl]; simp)
  ·exact runK_mem (b := b) (k := k) (by rw [hl]; exact e)
theorem best_out {b : Bk} {k : Nat} (h : outB b k = true) : bestR b (k + 1) = bestR b k ∧ mostR b (k + 1) = mostR b k := by
 have e : runK b (k + 1) = runK b k := by rw [runK_succ, if_pos h, List.append_nil]
 unfold mostR bestR
 rw [e]
 exact ⟨rfl, rfl⟩
theorem best_first {b : Bk} {k : Nat} (h : outB b k = false) (he : runK b k = []) : bestR b (k + 1) = k ∧ mostR b (k + 1) = sumsP b k := by
 have e : runK b (k + 1) = [(k : Int)] := by rw [runK_succ, he, h]; rfl
 have e1 : bestR b (k + 1) = k := by
  unfold bestR
  rw [e, if_neg (by simp)]
  simp [mostL]
 refine ⟨e1, ?_⟩
 unfold mostR
 rw [e1, e, if_neg (by simp)]
theorem best_more {b : Bk} {k : Nat} (h : outB b k = false) (he : runK b k ≠ []) : bestR b (k + 1) = (if sumsP b (bestR b k) < sumsP b k then (k : Int) else bestR b k) ∧ mostR b (k + 1) = if sumsP b (bestR b k) < sumsP b k then sumsP b k else sumsP b (bestR b k) := by
 have e : runK b (k + 1) = runK b k ++ [(k : Int)] := by rw [runK_succ, h]; rfl
 have hh : (runK b k ++ [(k : Int)]).headD 0 = (runK b k).headD 0 := by
  rcases hl : runK b k with _ | ⟨a, l⟩
  ·exact absurd hl he
  ·rfl
 have e1 : bestR b (k + 1) = if sumsP b (bestR b k) < sumsP b k then (k : Int) else bestR b k := by
  have e2 : bestR b k = mostL (sumsP b) ((runK b k).headD 0) (runK b k) := by unfold bestR; rw [if_neg he]
  rw [e2]
  unfold bestR
  rw [e, if_neg (by simp), hh, mostL_snoc]
 refine ⟨e1, ?_⟩
 unfold mostR
 rw [e, if_neg (by simp), e1]
 split <;> rfl
theorem bestR_all {b : Bk} (v : BVal b) : bestR b b.n.toNat = favP b := by
 have h := runL_two v
 unfold bestR favP
 unfold runL at h ⊢
 rw [if_neg (fun e => by rw [e] at h; simp at h)]
theorem bets_cell {w : World} {ba : Option Addr} {bcap : Nat} {l : List PB} (h : IsBets w (.slice ba l.length bcap) l) {i : Nat} (hi : i < l.length) : ∃ bb off, ba = some ⟨bb, off, none⟩ ∧ ∀ W, Ext w W →
  (W.cell? ⟨bb, off + i * 3, none⟩ = some (.int .i64 l[i].f) ∧ W.cell? ⟨bb, off + i * 3 + 1, none⟩ = some (.int .i64 l[i].s) ∧ W.cell? ⟨bb, off + i * 3 + 2, none⟩ = some (.int .i64 l[i].u)) ∧ bb < W.heap.size := by
 obtain ⟨_, _, e0, -, -, hbc⟩ := h.spec
 cases e0
 rcases hbc with h0 | ⟨bb, off, rfl, hc⟩
 ·rw [h0] at hi; simp at hi
 ·refine ⟨bb, off, rfl, fun W e => ?_⟩
  have c0 := cell_ext e (hc i hi).1
  exact ⟨⟨c0, cell_ext e (hc i hi).2.1, cell_ext e (hc i hi).2.2⟩, World.block_lt_of_cell? _ _ c0⟩
set_option maxRecDepth 100000 in
set_option maxHeartbeats 4000000 in
theorem favOf_any (b : Bk) (ba sa : Option Addr) (bcap scap : Nat) (w : World) (hv : IsBook w b ba bcap sa scap) (v : BVal b) :
  Calls Try.prog 59 #[.agg #[.int .i64 b.kd, .int .i64 b.n, .slice ba b.bets.length bcap, .slice sa b.scr.length scap, .bool b.fav, .int .i64 b.car, .int .i64 b.duty, .int .i64 b.step]] w fun e w' => e = .returned (.int .i64 (favP b)) ∧ Ext w w' := by
 obtain ⟨⟨q1, q2⟩, q3, q4⟩ := hv.caps
 have V := Lib.hid v
 have hvn := v.n
 have hvm := v.many
 clear v
 have HV := Lib.hid hv
 clear hv
 go_enter Try.func59, Try.ntmps59
 go_upto_region 1 with (fail)
 obtain ⟨W0, hW0⟩ : ∃ W0, W0 = w.alloc (.cells #[.int .i64 b.kd, .int .i64 b.n, .slice ba b.bets.length bcap, .slice sa b.scr.length scap, .bool b.fav, .int .i64 b.car, .int .i64 b.duty, .int .i64 b.step] 25) := ⟨_, rfl⟩
 have hE : Ext w W0 := by rw [hW0]; exact xx
 have k0 : W0.cell? ⟨w.heap.size, 0, none⟩ = some (.int .i64 b.kd) := by rw [hW0]; simp [go_sem]
 have k1 : W0.cell? ⟨w.heap.size, 1, none⟩ = some (.int .i64 b.n) := by rw [hW0]; simp [go_sem]
 have k2 : W0.cell? ⟨w.heap.size, 2, none⟩ = some (.slice ba b.bets.length bcap) := by rw [hW0]; simp [go_sem]
 have k3 : W0.cell? ⟨w.heap.size, 3, none⟩ = some (.slice sa b.scr.length scap) := by rw [hW0]; simp [go_sem]
 have k4 : W0.cell? ⟨w.heap.size, 4, none⟩ = some (.bool b.fav) := by rw [hW0]; simp [go_sem]
 have k5 : W0.cell? ⟨w.heap.size, 5, none⟩ = some (.int .i64 b.car) := by rw [hW0]; simp [go_sem]
 have k6 : W0.cell? ⟨w.heap.size, 6, none⟩ = some (.int .i64 b.duty) := by rw [hW0]; simp [go_sem]
 have k7 : W0.cell? ⟨w.heap.size, 7, none⟩ = some (.int .i64 b.step) := by rw [hW0]; simp [go_sem]
 have hz : w.heap.size < W0.heap.size := World.block_lt_of_cell? _ _ k0
 have HS := Lib.hid (HV.out.ext hE)
 have HW := Lib.hid hE
 rw [← hW0]
 clear hW0 HV
 clear hE
 go_wp2_with fail
 go_loopw [3, 4, 5] (fun bv mv iv W => ∃ (k : Nat) (best most : Int), (k : Int) ≤ b.n ∧ iv = .int .i64 k ∧ bv = .int .i64 best ∧ mv = .int .i64 most ∧ best = bestR b k ∧ most = mostR b k ∧ Ext W0 W) (fun _ _ iv _ => b.n.toNat - (intOf iv).toNat)
 case atStart => exact ⟨0, -1, 0, by omega, rfl, rfl, rfl, rfl, rfl, Below.refl _ _⟩
 case round =>
  obtain ⟨k, best, most, hk, rfl, rfl, rfl, hb, hm, hE⟩ := hrel
  have HB := Lib.hid hb
  have HM := Lib.hid hm
  have HE := Lib.hid hE
  replace k0 := cell_ext hE k0
  replace k1 := cell_ext hE k1
  replace k2 := cell_ext hE k2
  replace k3 := cell_ext hE k3
  replace k4 := cell_ext hE k4
  replace k5 := cell_ext hE k5
  replace k6 := cell_ext hE k6
  replace k7 := cell_ext hE k7
  replace hz := World.block_lt_of_cell? _ _ k0
  simp only at hz
  clear hb hm
  by_cases hlt : (k : Int) < b.n
  ·obtain ⟨X, rfl⟩ : ∃ X, X = wr := ⟨_, rfl⟩
   have hzX := hE.size
   clear hE
   go_wp2_with fail
   go_loopw [6, 7] (fun sv iv W => ∃ (i : Nat) (sm : Int), i ≤ b.bets.length ∧ iv = .int .i64 i ∧ sv = .int .i64 sm ∧ sm = sumB (refG b k) (b.bets.take i) ∧ Ext X W) (fun _ iv _ => b.bets.length - (intOf iv).toNat)
   case atStart => exact ⟨0, 0, by omega, rfl, rfl, rfl, Below.refl _ _⟩
   case round =>
    obtain ⟨i, sm, hi, rfl, rfl, hs, hE2⟩ := hrel
    have HSM := Lib.hid hs
    have HE2 := Lib.hid hE2
    have hsb := refG_bd V.out k i
    rw [← hs] at hsb
    replace k0 := cell_ext hE2 k0
    replace k1 := cell_ext hE2 k1
    replace k2 := cell_ext hE2 k2
    replace k3 := cell_ext hE2 k3
    replace k4 := cell_ext hE2 k4
    replace k5 := cell_ext hE2 k5
    replace k6 := cell_ext hE2 k6
    replace k7 := cell_ext hE2 k7
    replace hz := World.block_lt_of_cell? _ _ k0
    simp only at hz
    clear hs
    by_cases hlt2 : i < b.bets.length
    ·have hii : (i : Int) < (b.bets.length : Int) := by omega
     obtain ⟨bb, off, rfl, hc⟩ := bets_cell HS.out.bets hlt2
     obtain ⟨⟨d0, d1, d2⟩, hzd⟩ := hc wr (HE.out.trans' hE2)
     have htk := sumB_take (refG b k) hlt2
     have hbd := refG_bd V.out k (i + 1)
     have hxu := (V.out.bet (List.getElem_mem hlt2)).1
     obtain ⟨x, hx⟩ : ∃ x, x = b.bets[i] := ⟨_, rfl⟩
     rw [← hx] at d0 d1 d2 htk hxu
     rw [htk, ← HSM.out] at hbd
     rw [← HSM.out] at htk
     have HTK := Lib.hid htk
     have HSC := Lib.hid ((HS.out.ext (HE.out.trans' hE2)).scr)
     clear hc hx hE2 htk
     by_cases hf : x.f = (k : Int)
     ·have e1 : (x.f == (k : Int)) = true := by simpa using hf
      have HF := Lib.hid hf
      obtain ⟨c, hc⟩ : ∃ c, c = b.scr.contains x.s := ⟨_, rfl⟩
      have hcn := fun W h => has_any b.scr x.s (.slice sa b.scr.length scap) W h
      rw [← hc] at hcn
      have HCN := Lib.hid hcn
      have HC := Lib.hid hc
      clear hf hc hcn
      go_upto_region 10 with (fail)
      refine wp_region_grow (by kernel_rfl) (by kernel_rfl) ?_
      repeat (first | go_big_quiet_step ((go_at_call 49; exact grow_call (HCN.out _ (HSC.out.ext (by exact xx))))) | quiet_step ((go_at_call 49; exact grow_call (HCN.out _ (HSC.out.ext (by exact xx))))))
      refine wpQuiet_nil ?_
      rintro _ ⟨g, rfl⟩
      clear HCN
      cases c
      ·have hg : refG b k x = x.u := by unfold refG outB; rw [if_pos ⟨HF.out, HC.out.symm⟩]
       rw [hg] at hbd
       have HG := Lib.hid hg
       clear hg
       go_wp2_with fail
       go_roundw
       case rel => exact ⟨i + 1, sm + x.u, by omega, by go_num, by go_num, by rw [HTK.out, HG.out], HE2.out.trans' (grow_below wr g)⟩
       case measure => simp [intOf]; omega
      ·have hg : refG b k x = 0 := by unfold refG outB; rw [if_neg (by rw [← HC.out]; simp)]
       have HG := Lib.hid hg
       clear hg hbd
       go_wp2_with fail
       go_roundw
       case rel => exact ⟨i + 1, sm, by omega, by go_num, rfl, by rw [HTK.out, HG.out]; omega, HE2.out.trans' (grow_below wr g)⟩
       case measure => simp [intOf]; omega
     ·have e1 : (x.f == (k : Int)) = false := by simpa using hf
      have hg : refG b k x = 0 := by unfold refG; rw [if_neg (fun h => hf h.1)]
      have HG := Lib.hid hg
      clear hf hg hbd
      go_wp2_with fail
      go_roundw
      case rel => exact ⟨i + 1, sm, by omega, by go_num, rfl, by rw [HTK.out, HG.out]; omega, HE2.out⟩
      case measure => simp [intOf]; omega
    ·have hii : ¬ ((i : Int) < (b.bets.length : Int)) := by omega
     have hie : i = b.bets.length := by omega
     have hsum : sm = sumB (refG b k) b.bets := by have := HSM.out; rwa [hie, List.take_length] at this
     have HSUM := Lib.hid hsum
     have HSC := Lib.hid ((HS.out.ext (HE.out.trans' hE2)).scr)
     have HF := Lib.hid (HE.out.trans' hE2)
     clear hie hsum hE2
     obtain ⟨Y, rfl⟩ : ∃ Y, Y = wr := ⟨_, rfl⟩
     go_wp2_with fail
     refine (has_any b.scr k _ _ (HSC.out.ext (by exact xx))).mono ?_
     rintro e W5 ⟨rfl, hE5⟩
     have HE5 := Lib.hid (HF.out.trans' hE5)
     clear hE5
     by_cases ho : (k : Int) ∈ b.scr
     rotate_left
     ·have ho' : outB b k = false := by unfold outB; simpa using ho
      have hsum2 : sm = sumsP b k := by rw [HSUM.out, refG_on ho']
      by_cases he : runK b k = []
      ·obtain ⟨r1, r2⟩ := best_first ho' he
       have hb0 : best = -1 := by rw [HB.out]; unfold bestR; rw [if_pos he]
       have hbl : best < 0 := by omega
       have R1 := Lib.hid r1
       have R2 := Lib.hid r2
       have S2 := Lib.hid hsum2
       clear ho' hsum2 he r1 r2 hb0
       go_wp2_with fail
       go_roundw
       case rel => exact ⟨k + 1, k, sm, by omega, by go_num, rfl, rfl, R1.out.symm, by rw [R2.out, S2.out], HE5.out⟩
       case measure => simp [intOf]; omega
      ·obtain ⟨r1, r2⟩ := best_more ho' he
       have hbp := bestR_pos he
       rw [← HB.out] at hbp r1 r2
       have hmm : most = sumsP b best := by rw [HM.out, HB.out]; unfold mostR; rw [if_neg he]
       rw [← hmm, ← hsum2] at r1 r2
       have hbl : ¬ (best < 0) := by omega
       have R1 := Lib.hid r1
       have R2 := Lib.hid r2
       clear ho' hsum2 he r1 r2 hmm hbp
       by_cases hlm : most < sm
       ·have HLM := Lib.hid hlm
        go_wp2_with fail
        go_roundw
        case rel => exact ⟨k + 1, k, sm, by omega, by go_num, rfl, rfl, by rw [R1.out, if_pos HLM.out], by rw [R2.out, if_pos HLM.out], HE5.out⟩
        case measure => simp [intOf]; omega
       ·have HLM := Lib.hid hlm
        go_wp2_with fail
        go_roundw
        case rel => exact ⟨k + 1, best, most, by omega, by go_num, rfl, rfl, by rw [R1.out, if_neg (by have := HLM.out; omega)], by rw [R2.out, if_neg (by have := HLM.out; omega)], HE5.out⟩
        case measure => simp [intOf]; omega
     ·obtain ⟨r1, r2⟩ := best_out (show outB b k = true by unfold outB; simpa using ho)
      have R1 := Lib.hid r1
      have R2 := Lib.hid r2
      clear r1 r2
      go_wp2_with fail
      go_roundw
      case rel => exact ⟨k + 1, best, most, by omega, by go_num, rfl, rfl, by rw [R1.out, HB.out], by rw [R2.out, HM.out], HE5.out⟩
      case measure => simp [intOf]; omega
  ·have hfin : best = favP b := by
    have : k = b.n.toNat := by omega
    rw [HB.out, this, bestR_all V.out]
   have HFIN := Lib.hid hfin
   clear hfin hE
   go_wp2_with fail
   go_ret
   exact ⟨ret_int HFIN.out, HW.out.trans' HE.out⟩
set_option maxRecDepth 100000 in
set_option maxHeartbeats 1000000 in
theorem refFav_any (b : Bk) (ba sa : Option Addr) (bcap scap : Nat) (w : World) (hv : IsBook w b ba bcap sa scap) :
  Calls Try.prog 22 #[.agg #[.int .i64 b.kd, .int .i64 b.n, .slice ba b.bets.length bcap, .slice sa b.scr.length scap, .bool b.fav, .int .i64 b.car, .int .i64 b.duty, .int .i64 b.step]] w fun e w' => e = .returned (.tuple #[.int .i64 (favA b), .int .i64 (bkErr b)]) ∧ Ext w w' := by
 have HV := Lib.hid hv
 clear hv
 go_enter Try.func22, Try.ntmps22
 go_upto_region 1 with (fail)
 obtain ⟨W0, hW0⟩ : ∃ W0, W0 = w.alloc (.cells #[.int .i64 b.kd, .int .i64 b.n, .slice ba b.bets.length bcap, .slice sa b.scr.length scap, .bool b.fav, .int .i64 b.car, .int .i64 b.duty, .int .i64 b.step] 25) := ⟨_, rfl⟩
 have hE : Ext w W0 := by rw [hW0]; exact xx
 have k0 : W0.cell? ⟨w.heap.size, 0, none⟩ = some (.int .i64 b.kd) := by rw [hW0]; simp [go_sem]
 have k1 : W0.cell? ⟨w.heap.size, 1, none⟩ = some (.int .i64 b.n) := by rw [hW0]; simp [go_sem]
 have k2 : W0.cell? ⟨w.heap.size, 2, none⟩ = some (.slice ba b.bets.length bcap) := by rw [hW0]; simp [go_sem]
 have k3 : W0.cell? ⟨w.heap.size, 3, none⟩ = some (.slice sa b.scr.length scap) := by rw [hW0]; simp [go_sem]
 have k4 : W0.cell? ⟨w.heap.size, 4, none⟩ = some (.bool b.fav) := by rw [hW0]; simp [go_sem]
 have k5 : W0.cell? ⟨w.heap.size, 5, none⟩ = some (.int .i64 b.car) := by rw [hW0]; simp [go_sem]
 have k6 : W0.cell? ⟨w.heap.size, 6, none⟩ = some (.int .i64 b.duty) := by rw [hW0]; simp [go_sem]
 have k7 : W0.cell? ⟨w.heap.size, 7, none⟩ = some (.int .i64 b.step) := by rw [hW0]; simp [go_sem]
 have hz : w.heap.size < W0.heap.size := World.block_lt_of_cell? _ _ k0
 have HS := Lib.hid (HV.out.ext hE)
 have HW := Lib.hid hE
 rw [← hW0]
 clear hW0 HV
 clear hE




 go_wp2_with fail
 refine callW (W0 := W0) (g := ⟨W0, Below.refl _ _⟩) xx (refCheck_any b ba sa bcap scap _ (HS.out.ext xx)) fun g1 hgr => ?_
 clear hgr
 obtain ⟨er, her⟩ : ∃ er, er = bkErr b := ⟨_, rfl⟩
 rw [← her]

 by_cases h0 : er = 0
 ·subst h0
  have V := Lib.hid (bval_of her.symm)
  have hfv : favA b = favP b := by unfold favA; rw [if_pos her.symm]
  have HFV := Lib.hid hfv
  have HER := Lib.hid her
  clear her hfv
  go_wp2_with fail
  refine callW (W0 := W0) (g := g1) xx (favOf_any b ba sa bcap scap _ (HS.out.ext xx) V.out) fun g2 hgr => ?_
  clear hgr
  go_wp2_with fail
  refine bodyPost_ret (v := .tuple #[.int .i64 (favP b), .int .i64 0]) (by simp [results, Try.results22, go_sem]) rfl ?_
  exact ⟨by rw [HFV.out, ← HER.out], HW.out.trans' (grow_below W0 _)⟩
 ·skip

  have f1 : (er != 0) = true := by simpa using h0
  have hfv : favA b = 0 := by unfold favA; rw [← her, if_neg h0]
  have HFV := Lib.hid hfv
  have HER := Lib.hid her
  clear her h0 hfv
  go_wp2_with fail
  refine callW (W0 := W0) (g := g1) xx (refCheck_any b ba sa bcap scap _ (HS.out.ext xx)) fun g3 hgr => ?_
  clear hgr
  rw [← HER.out]
  go_wp2_with fail
  refine bodyPost_ret (v := .tuple #[.int .i64 0, .int .i64 er]) (by simp [results, Try.results22, go_sem]) rfl ?_
  exact ⟨by rw [HFV.out, ← HER.out], HW.out.trans' (grow_below W0 _)⟩
end Go.Proofs.Ytphajlldghcnnaa
namespace Go.Proofs.Ytphajlldghcnnaa
open Go.RowKit Go.Shelf
def outT (b : Bk) (r : Int) (k : Nat) : List Int := ((List.range k).map fun (i : Nat) => (i : Int)).filter fun i => decide (i = r) || outB b i
theorem outT_succ (b : Bk) (r : Int) (k : Nat) : outT b r (k + 1) = outT b r k ++ if (k : Int) = r ∨ outB b k = true then [(k : Int)] else [] := by
 unfold outT
 rw [List.range_succ, List.map_append, List.filter_append]
 congr 1
 by_cases h1 : (k : Int) = r
 ·simp [h1]
 ·cases h2 : outB b k <;> simp [h1, h2]
theorem outT_len (b : Bk) (r : Int) (k : Nat) : (outT b r k).length ≤ k := by
 unfold outT
 exact Nat.le_trans (List.length_filter_le _ _) (by simp)
theorem outT_sort {b : Bk} (v : BVal b) {r : Int} (hr : 0 ≤ r ∧ r < b.n) (ho : outB b r = false) : outT b r b.n.toNat = sortL (b.scr ++ [r]) := by
 refine List.Perm.eq_of_pairwise (le := fun a b => decide (a ≤ b) = true) (fun a b _ _ h1 h2 => by simp at h1 h2; omega) ?_ (sortL_sorted _) ?_
 ·unfold outT
  refine List.Pairwise.sublist List.filter_sublist ?_
  rw [List.pairwise_map]
  exact List.pairwise_lt_range.imp fun h => by simp; omega
 ·refine List.Perm.trans ?_ (sortL_perm _).symm
  refine (List.perm_ext_iff_of_nodup ?_ ?_).2 fun x => ?_
  ·unfold outT
   refine List.Nodup.sublist List.filter_sublist ?_
   rw [List.nodup_iff_pairwise_ne, List.pairwise_map]
   exact List.nodup_range.imp fun h e => h (by omega)
  ·rw [List.nodup_append]
   refine ⟨rising_nodup v.inc, by simp, fun a ha c hc e => ?_⟩
   simp only [List.mem_singleton] at hc
   subst hc; subst e
   unfold outB at ho
   rw [List.contains_iff_mem.2 ha] at ho
   cases ho
  ·unfold outT
   rw [List.mem_filter, List.mem_append, List.mem_singleton, List.mem_map]
   constructor
   ·rintro ⟨_, h⟩
    rw [Bool.or_eq_true, decide_eq_true_iff] at h
    rcases h with h | h
    ·exact .inr h
    ·exact .inl (List.contains_iff_mem.1 h)
   ·rintro (h | h)
    ·have := v.scr x h
     exact ⟨⟨x.toNat, List.mem_range.2 (by omega), by omega⟩, by rw [Bool.or_eq_true]; exact .inr (List.contains_iff_mem.2 h)⟩
    ·subst h
     exact ⟨⟨x.toNat, List.mem_range.2 (by omega), by omega⟩, by simp⟩
set_option maxRecDepth 100000 in
set_option maxHeartbeats 8000000 in
theorem refScr_any (r : Int) (b : Bk) (ba sa : Option Addr) (bcap scap : Nat) (w : World) (hv : IsBook w b ba bcap sa scap) :
  Calls Try.prog 20 #[.agg #[.int .i64 b.kd, .int .i64 b.n, .slice ba b.bets.length bcap, .slice sa b.scr.length scap, .bool b.fav, .int .i64 b.car, .int .i64 b.duty, .int .i64 b.step], .int .i64 r] w (RetScr w b r) := by
 have HV := Lib.hid hv
 clear hv
 go_enter Try.func20, Try.ntmps20
 go_upto_region 1 with (fail)
 obtain ⟨W0, hW0⟩ : ∃ W0, W0 = (w.alloc (.cells #[.int .i64 b.kd, .int .i64 b.n, .slice ba b.bets.length bcap, .slice sa b.scr.length scap, .bool b.fav, .int .i64 b.car, .int .i64 b.duty, .int .i64 b.step] 25)).alloc (.cells #[.int .i64 0, .int .i64 0, .slice none 0 0, .slice none 0 0, .bool false, .int .i64 0, .int .i64 0, .int .i64 0] 25) := ⟨_, rfl⟩
 have hE0 : Ext w W0 := by rw [hW0]; exact xx
 have hbk0 : BookAt W0 w.heap.size b ba bcap sa scap := by rw [hW0]; constructor <;> simp [go_sem]
 have hzr : RowB W0 (w.heap.size + 1) zRow := by
  rw [hW0]
  have := World.alloc_heap_new (w.alloc (.cells #[.int .i64 b.kd, .int .i64 b.n, .slice ba b.bets.length bcap, .slice sa b.scr.length scap, .bool b.fav, .int .i64 b.car, .int .i64 b.duty, .int .i64 b.step] 25)) (.cells #[.int .i64 0, .int .i64 0, .slice none 0 0, .slice none 0 0, .bool false, .int .i64 0, .int .i64 0, .int .i64 0] 25)
  rwa [World.size_alloc] at this
 rw [← hW0]
 have k0 := (hbk0).c0
 have k1 := (hbk0).c1
 have k2 := (hbk0).c2
 have k3 := (hbk0).c3
 have k4 := (hbk0).c4
 have k5 := (hbk0).c5
 have k6 := (hbk0).c6
 have k7 := (hbk0).c7
 have hz := (hbk0).lt
 have HE0 := Lib.hid hE0
 have HBK0 := Lib.hid hbk0
 have HZ0 := Lib.hid hzr
 clear hW0 hE0 hbk0 hzr
 go_wp2_with fail
 refine (refCheck_any b ba sa bcap scap _ (HV.out.ext HE0.out)).mono ?_
 rintro e W1 ⟨rfl, hE1⟩
 obtain ⟨er, her⟩ : ∃ er, er = bkErr b := ⟨_, rfl⟩
 rw [← her]
 have HE1 := Lib.hid (HE0.out.trans' hE1)
 have HBK1 := Lib.hid (HBK0.out.ext hE1)
 have HZ1 := Lib.hid (HZ0.out.ext hE1)
 clear hE1 k0 k1 k2 k3 k4 k5 k6 k7
 have hbk := HBK1.out
 have k0 := (hbk).c0
 have k1 := (hbk).c1
 have k2 := (hbk).c2
 have k3 := (hbk).c3
 have k4 := (hbk).c4
 have k5 := (hbk).c5
 have k6 := (hbk).c6
 have k7 := (hbk).c7
 have hz := (hbk).lt
 clear hbk
 by_cases hne : er = 0
 rotate_left
 ·have f1 : (er != 0) = true := by simpa using hne
  have HER := Lib.hid her
  have HNE := Lib.hid hne
  clear her hne
  go_wp2_with fail
  refine (refCheck_any b ba sa bcap scap _ (HV.out.ext HE1.out)).mono ?_
  rintro e W2 ⟨rfl, hE2⟩
  rw [← HER.out]
  have hzr := HZ1.out.ext hE2
  have e1 : Hid (scrErr b r = er) := Lib.hid (by unfold scrErr; rw [← HER.out, if_pos HNE.out])
  have HE2 := Lib.hid (HE1.out.trans' hE2)
  clear hE2
  have z0 := (hzr).cell 0
  have z1 := (hzr).cell 1
  have z2 := (hzr).cell 2
  have z3 := (hzr).cell 3
  have z4 := (hzr).cell 4
  have z5 := (hzr).cell 5
  have z6 := (hzr).cell 6
  have z7 := (hzr).cell 7
  have zf := fun o => (hzr).fr o
  have zz := (hzr).lt
  simp only [zRow, List.getElem?_toArray, List.getElem?_cons_zero, List.getElem?_cons_succ] at z0 z1 z2 z3 z4 z5 z6 z7
  clear hzr
  go_wp2_with fail
  refine bodyPost_ret (v := .tuple #[noBook, .int .i64 er]) (by simp [results, Try.results20, go_sem, noBook, z0, z1, z2, z3, z4, z5, z6, z7]) rfl ?_
  exact ⟨ext_set8 HE2.out (Nat.le_succ _) _ _ _ _ _ _ _ _, .inl ⟨by rw [e1.out]; exact HNE.out, by rw [e1.out]⟩⟩
 subst hne
 have V := Lib.hid (bval_of her.symm)
 have H0 := Lib.hid her.symm
 clear her
 have hn := V.out.n
 by_cases hr0 : r < 0
 ·have e1 : Hid (scrErr b r = 3) := Lib.hid (by unfold scrErr; rw [if_neg (fun h => h H0.out), if_pos (by rw [Bool.eq_false_iff]; intro h; rw [isRun_iff] at h; omega)])
  have hzr := HZ1.out
  have z0 := (hzr).cell 0
  have z1 := (hzr).cell 1
  have z2 := (hzr).cell 2
  have z3 := (hzr).cell 3
  have z4 := (hzr).cell 4
  have z5 := (hzr).cell 5
  have z6 := (hzr).cell 6
  have z7 := (hzr).cell 7
  have zf := fun o => (hzr).fr o
  have zz := (hzr).lt
  simp only [zRow, List.getElem?_toArray, List.getElem?_cons_zero, List.getElem?_cons_succ] at z0 z1 z2 z3 z4 z5 z6 z7
  clear hzr
  go_wp2_with fail
  refine bodyPost_ret (v := .tuple #[noBook, .int .i64 3]) (by simp [results, Try.results20, go_sem, noBook, z0, z1, z2, z3, z4, z5, z6, z7]) rfl ?_
  exact ⟨ext_set8 HE1.out (Nat.le_succ _) _ _ _ _ _ _ _ _, .inl ⟨by rw [e1.out]; decide, by rw [e1.out]⟩⟩
 by_cases hrn : b.n ≤ r
 ·have e1 : Hid (scrErr b r = 3) := Lib.hid (by unfold scrErr; rw [if_neg (fun h => h H0.out), if_pos (by rw [Bool.eq_false_iff]; intro h; rw [isRun_iff] at h; omega)])
  have hzr := HZ1.out
  have z0 := (hzr).cell 0
  have z1 := (hzr).cell 1
  have z2 := (hzr).cell 2
  have z3 := (hzr).cell 3
  have z4 := (hzr).cell 4
  have z5 := (hzr).cell 5
  have z6 := (hzr).cell 6
  have z7 := (hzr).cell 7
  have zf := fun o => (hzr).fr o
  have zz := (hzr).lt
  simp only [zRow, List.getElem?_toArray, List.getElem?_cons_zero, List.getElem?_cons_succ] at z0 z1 z2 z3 z4 z5 z6 z7
  clear hzr
  go_wp2_with fail
  refine bodyPost_ret (v := .tuple #[noBook, .int .i64 3]) (by simp [results, Try.results20, go_sem, noBook, z0, z1, z2, z3, z4, z5, z6, z7]) rfl ?_
  exact ⟨ext_set8 HE1.out (Nat.le_succ _) _ _ _ _ _ _ _ _, .inl ⟨by rw [e1.out]; decide, by rw [e1.out]⟩⟩
 have hR : ¬ isRun b.n r = false := by rw [isRun_iff.2 (by omega)]; simp
 have HR := Lib.hid hR
 clear hR
 go_wp2_with fail
 refine (has_any b.scr r _ _ (HV.out.ext HE1.out).scr).mono ?_
 rintro e W3 ⟨rfl, hE3⟩
 have HE3 := Lib.hid (HE1.out.trans' hE3)
 have HBK3 := Lib.hid (HBK1.out.ext hE3)
 have HZ3 := Lib.hid (HZ1.out.ext hE3)
 clear hE3 k0 k1 k2 k3 k4 k5 k6 k7
 have hbk := HBK3.out
 have k0 := (hbk).c0
 have k1 := (hbk).c1
 have k2 := (hbk).c2
 have k3 := (hbk).c3
 have k4 := (hbk).c4
 have k5 := (hbk).c5
 have k6 := (hbk).c6
 have k7 := (hbk).c7
 have hz := (hbk).lt
 clear hbk
 by_cases ho : r ∈ b.scr
 ·have e1 : Hid (scrErr b r = 11) := Lib.hid (by unfold scrErr; rw [if_neg (fun h => h H0.out), if_neg HR.out, if_pos (by unfold outB; simpa using ho)])
  have hzr := HZ3.out
  have z0 := (hzr).cell 0
  have z1 := (hzr).cell 1
  have z2 := (hzr).cell 2
  have z3 := (hzr).cell 3
  have z4 := (hzr).cell 4
  have z5 := (hzr).cell 5
  have z6 := (hzr).cell 6
  have z7 := (hzr).cell 7
  have zf := fun o => (hzr).fr o
  have zz := (hzr).lt
  simp only [zRow, List.getElem?_toArray, List.getElem?_cons_zero, List.getElem?_cons_succ] at z0 z1 z2 z3 z4 z5 z6 z7
  clear hzr
  go_wp2_with fail
  refine bodyPost_ret (v := .tuple #[noBook, .int .i64 11]) (by simp [results, Try.results20, go_sem, noBook, z0, z1, z2, z3, z4, z5, z6, z7]) rfl ?_
  exact ⟨ext_set8 HE3.out (Nat.le_succ _) _ _ _ _ _ _ _ _, .inl ⟨by rw [e1.out]; decide, by rw [e1.out]⟩⟩
 have hob : outB b r = false := by unfold outB; simpa using ho
 have hleft := V.out.left
 have HOB := Lib.hid hob
 have hwn : IntKind.i64.wrap (b.n - (b.scr.length : Int)) = b.n - b.scr.length := IntWalk.i64_in _ (by omega)
 by_cases hfull : (b.scr.length : Int) = b.n - 2
 ·have e1 : Hid (scrErr b r = 10) := Lib.hid (by unfold scrErr; rw [if_neg (fun h => h H0.out), if_neg HR.out, if_neg (by rw [HOB.out]; simp), if_pos hfull])
  have hzr := HZ3.out
  have hf2 : (b.n - (b.scr.length : Int) == 2) = true := by rw [beq_iff_eq]; omega
  clear hfull hob
  have z0 := (hzr).cell 0
  have z1 := (hzr).cell 1
  have z2 := (hzr).cell 2
  have z3 := (hzr).cell 3
  have z4 := (hzr).cell 4
  have z5 := (hzr).cell 5
  have z6 := (hzr).cell 6
  have z7 := (hzr).cell 7
  have zf := fun o => (hzr).fr o
  have zz := (hzr).lt
  simp only [zRow, List.getElem?_toArray, List.getElem?_cons_zero, List.getElem?_cons_succ] at z0 z1 z2 z3 z4 z5 z6 z7
  clear hzr
  go_wp2_with fail
  refine bodyPost_ret (v := .tuple #[noBook, .int .i64 10]) (by simp [results, Try.results20, go_sem, noBook, z0, z1, z2, z3, z4, z5, z6, z7]) rfl ?_
  exact ⟨ext_set8 HE3.out (Nat.le_succ _) _ _ _ _ _ _ _ _, .inl ⟨by rw [e1.out]; decide, by rw [e1.out]⟩⟩
 have hf2 : (b.n - (b.scr.length : Int) == 2) = false := by rw [beq_eq_false_iff_ne]; omega
 have HS0 : Hid (scrErr b r = 0) := Lib.hid (by unfold scrErr; rw [if_neg (fun h => h H0.out), if_neg HR.out, if_neg (by rw [HOB.out]; simp), if_neg hfull])
 clear hfull hob
 go_upto_region 10 with (fail)
 obtain ⟨A, hA⟩ : ∃ A, A = W3.alloc (.cells #[.int .i64 b.kd, .int .i64 b.n, .slice ba b.bets.length bcap, .slice sa b.scr.length scap, .bool b.fav, .int .i64 b.car, .int .i64 b.duty, .int .i64 b.step] 25) := ⟨_, rfl⟩
 rw [← hA]
 obtain ⟨Q, hQ⟩ : ∃ Q, Q = W3.heap.size := ⟨_, rfl⟩
 rw [← hQ]
 have hrA : RowB A Q (#[.int .i64 b.kd, .int .i64 b.n, .slice ba b.bets.length bcap, .slice sa b.scr.length scap, .bool b.fav, .int .i64 b.car, .int .i64 b.duty, .int .i64 b.step]) := by rw [hA, hQ]; exact World.alloc_heap_new W3 _
 have hEA : Ext W3 A := by rw [hA]; exact xx
 have hzA : Q < A.heap.size := hrA.lt
 have hbA := HBK3.out.ext hEA
 obtain ⟨vb, Wb, hap, hownb, hEb⟩ := app_new (w := A.alloc (.cells #[] 62)) elBet 22 A.heap.size (isNew A _ 3 A.heap.size (Nat.le_refl _)) (b.bets.map betRow) (by intro x hx; obtain ⟨y, _, rfl⟩ := List.mem_map.1 hx; rfl)
  (((HV.out.ext HE3.out).ext hEA).bets.ext (by exact xx)) (by intro x hx u hu; obtain ⟨y, _, rfl⟩ := List.mem_map.1 hx; simp [betRow] at hu; rcases hu with rfl | rfl | rfl <;> rfl) (by rw [List.length_map]; have := V.out.many; omega) (by simp)
 have hEAb : Ext A Wb := Ext.trans' (by exact xx) hEb
 obtain ⟨vba, vbc, hvb, -, -, -⟩ := hownb.form
 rw [List.length_map] at hvb
 rw [hvb] at hap hownb
 have hrb := hrA.ext hEAb
 have r2 := hrb.cell 2
 have r3 := hrb.cell 3
 have rf := fun o => hrb.fr o
 have rz := hrb.lt
 simp only [List.getElem?_toArray, List.getElem?_cons_zero, List.getElem?_cons_succ] at r2 r3
 replace k2 := hbA.c2
 replace hz := hbA.lt
 have HAP := Lib.hid hap
 have HOWB := Lib.hid hownb
 have HRb := Lib.hid hrb
 have HEb := Lib.hid (hEA.trans' hEAb)
 have HQ := Lib.hid hQ
 have HBKb := Lib.hid (hbA.ext hEAb)
 have HZb := Lib.hid (HZ3.out.ext (hEA.trans' hEAb))
 clear hA hQ hrA hEA hbA hap hownb hEb hEAb hvb hrb k0 k1 k3 k4 k5 k6 k7
 go_wp2_with (at_builtin; refine wpAppRun rfl (.tmp 37) (.tmp 39) rfl rfl rfl HAP.out ?_)
 go_upto_region 11 with (fail)
 obtain ⟨X, hX⟩ : ∃ X, X = (Wb.setCell ⟨Q, 2, none⟩ (.slice vba b.bets.length vbc)).setCell ⟨Q, 3, none⟩ (.slice none 0 0) := ⟨_, rfl⟩
 rw [← hX]
 have hrX : RowB X Q #[.int .i64 b.kd, .int .i64 b.n, .slice vba b.bets.length vbc, .slice none 0 0, .bool b.fav, .int .i64 b.car, .int .i64 b.duty, .int .i64 b.step] := by
  rw [hX]
  exact heap_setCell_row (heap_setCell_row HRb.out 2 (.slice vba b.bets.length vbc)) 3 (.slice none 0 0)
 have hkX : Kept (fun k => k ≠ Q) Wb X := by
  rw [hX]
  exact ((Kept.refl _ _).setCell (fun _ h => h rfl) _).setCell (fun _ h => h rfl) _
 have hE3X : Ext W3 X := ext_kept HEb.out hkX (by have := HQ.out; omega)
 have hbX : IsBets X (.slice vba b.bets.length vbc) b.bets := by
  have h1 := HOWB.out.isRows
  refine IsRows.kept hkX (.inr fun g hg => ?_) h1
  have := (HOWB.out.notOwn g hg).1
  omega
 have hvbX : ∀ g, (Value.slice vba b.bets.length vbc).ownBlock = some g → (g < X.heap.size ∧ g ≠ Q) ∧ Q < g := fun g hg => by
  have h1 := HOWB.out.notOwn g hg
  have h2 := hkX.size
  omega
 have HVB := Lib.hid hvbX
 have hzQX := hrX.lt
 have hbkX : BookAt X w.heap.size b ba bcap sa scap := HBK3.out.ext hE3X
 have HRX := Lib.hid hrX
 have HBX := Lib.hid hbX
 have HE3X := Lib.hid (HE3.out.trans' hE3X)
 have HZX := Lib.hid (HZ3.out.ext hE3X)
 have HBKX := Lib.hid hbkX
 have HQ3 := Lib.hid (by have := HQ.out; omega : W3.heap.size ≤ Q)
 have hlow : w.heap.size + 2 ≤ Q := by have h1 := HZ3.out.lt; have := HQ.out; omega
 clear hX hrX hkX hE3X hbX hbkX hvbX r2 r3 rf rz hz k2 HRb HEb HOWB
 go_wp2_with fail
 go_loopw [7] (fun iv W => ∃ (k : Nat) (sa' : Option Addr) (n' c' : Nat), (k : Int) ≤ b.n ∧ iv = .int .i64 k ∧ RowB W Q #[.int .i64 b.kd, .int .i64 b.n, .slice vba b.bets.length vbc, .slice sa' n' c', .bool b.fav, .int .i64 b.car, .int .i64 b.duty, .int .i64 b.step] ∧
   Owns W X.heap.size 3 1 (.slice sa' n' c') ((outT b r k).map iRow) ∧ Kept (fun j => j < X.heap.size ∧ j ≠ Q) X W) (fun iv _ => b.n.toNat - (intOf iv).toNat)
 case atStart => exact ⟨0, none, 0, 0, by omega, rfl, HRX.out, Owns.nil _ _ _ _, Kept.refl _ _⟩
 case round =>
  obtain ⟨k, sa', n', c', hk, rfl, hrow, hown, hkp⟩ := hrel
  have HROW := Lib.hid hrow
  have HOWN := Lib.hid hown
  have HKP := Lib.hid hkp
  have k1 := hkp.cell HBKX.out.c1 ⟨by have := HBKX.out.lt; simp only; omega, by simp only; omega⟩
  have k3 := hkp.cell HBKX.out.c3 ⟨by have := HBKX.out.lt; simp only; omega, by simp only; omega⟩
  have hz := World.block_lt_of_cell? _ _ k1
  simp only at hz
  have hEw : Ext w wr := HE3X.out.trans (Kept.below (hkp.mono (T := fun k => k < w.heap.size) fun j _ hj => by have := HE3X.out.size; omega) HE3X.out.size)
  have HSw := Lib.hid (HV.out.ext hEw).scr
  have x3 := hrow.cell 3
  have xf := hrow.fr 3
  have xz := hrow.lt
  simp only [List.getElem?_toArray, List.getElem?_cons_zero, List.getElem?_cons_succ] at x3
  have hzX := hkp.size
  have hlen := outT_len b r k
  by_cases hlt : (k : Int) < b.n
  ·have hsucc := outT_succ b r k
   have HSU := Lib.hid hsucc
   clear hrow hown hkp hEw hsucc
   by_cases hkr : (k : Int) = r
   ·have f1 : ((k : Int) == r) = true := by simpa using hkr
    have HIN : Hid ((k : Int) = r ∨ outB b k = true) := Lib.hid (.inl hkr)
    obtain ⟨Y, rfl⟩ : ∃ Y, Y = wr := ⟨_, rfl⟩
    have hEY : Hid (Ext Y Y) := Lib.hid (Below.refl _ _)
    clear hkr
    have HLEN : Hid (((outT b r k).map iRow).length + [[Value.int .i64 k]].length ≤ 1000000) := Lib.hid (by simp; omega)
    have hXY : X.heap.size ≤ Y.heap.size := by omega
    go_wp2_with (at_builtin; refine wpOwn rfl (.tmp 59) (.tmp 61) elInt rfl X.heap.size rfl (HOWN.out.ext (by exact xx)) Y.heap.size 0 1 [[.int .i64 k]] rfl (by simp) (newRowAt _ [.int .i64 k] _ _ _ rfl rfl) (by simp [Value.oneCell']) HLEN.out (by simp; omega) ?_)
    intro v' W4 hown4 hb4
    obtain ⟨va, vn, vc, rfl⟩ := hown4.isSlice
    have hrY : RowB (Y.alloc (.cells #[.int .i64 k] 3)) Q _ := HROW.out.ext (by exact xx)
    have hr4 := (hb4.block Q hzQX).trans hrY
    have y3 : W4.cell? ⟨Q, 3, none⟩ = some (.slice sa' n' c') := by rw [cell_of_row _ _ _ _ _ _ hr4]; rfl
    have yf : W4.frozen? ⟨Q, 3, none⟩ = false := by simp [World.frozen?, hr4]
    have yz := (Array.getElem?_eq_some_iff.1 hr4).1
    have HR4 := Lib.hid hr4
    have HO4 := Lib.hid hown4
    have HK4 := Lib.hid ((HKP.out.trans (((Kept.refl _ Y).alloc (.cells #[.int .i64 k] 3)).mono fun j hj h => h)).trans ⟨hb4.os, hb4.tape, hb4.output, hb4.size, fun j _ hj => hb4.block j hj.1⟩ : Kept (fun j => j < X.heap.size ∧ j ≠ Q) X W4)
    clear hown4 hb4 hrY hr4 x3 xf
    go_wp2_with fail
    go_roundw
    case rel =>
     refine ⟨k + 1, va, vn, vc, by omega, by go_num, heap_setCell_row HR4.out 3 _, ?_, HK4.out.setCell (fun _ h => h.2 rfl) _⟩
     rw [HSU.out, if_pos HIN.out, List.map_append]
     exact HO4.out.setOther HR4.out (by decide) 3 _
    case measure => simp [intOf]; omega
   ·have f1 : ((k : Int) == r) = false := by simpa using hkr
    obtain ⟨Y0, rfl⟩ : ∃ Y0, Y0 = wr := ⟨_, rfl⟩
    go_wp2_with fail
    refine (has_any b.scr k _ _ (HSw.out.ext (by exact xx))).mono ?_
    rintro e Y ⟨rfl, hEY'⟩
    have hEY := Lib.hid hEY'
    replace x3 := cell_ext hEY' x3
    replace xz := (HROW.out.ext hEY').lt
    replace xf := (HROW.out.ext hEY').fr 3
    replace k1 := cell_ext hEY' k1
    replace hz := World.block_lt_of_cell? _ _ k1
    simp only at hz
    have hyz := hEY'.size
    clear hEY' k3
    by_cases ho : (k : Int) ∈ b.scr
    ·have HIN : Hid ((k : Int) = r ∨ outB b k = true) := Lib.hid (.inr (by unfold outB; simpa using ho))
     replace HROW := Lib.hid (HROW.out.ext hEY.out)
     replace HOWN := Lib.hid (HOWN.out.ext hEY.out)
     replace HKP := Lib.hid (HKP.out.trans ((Kept.of_below hEY.out).mono fun j hj _ => hj))
     have HLEN : Hid (((outT b r k).map iRow).length + [[Value.int .i64 k]].length ≤ 1000000) := Lib.hid (by simp; omega)
     have hXY : X.heap.size ≤ Y.heap.size := by omega
     go_wp2_with (at_builtin; refine wpOwn rfl (.tmp 59) (.tmp 61) elInt rfl X.heap.size rfl (HOWN.out.ext (by exact xx)) Y.heap.size 0 1 [[.int .i64 k]] rfl (by simp) (newRowAt _ [.int .i64 k] _ _ _ rfl rfl) (by simp [Value.oneCell']) HLEN.out (by simp; omega) ?_)
     intro v' W4 hown4 hb4
     obtain ⟨va, vn, vc, rfl⟩ := hown4.isSlice
     have hrY : RowB (Y.alloc (.cells #[.int .i64 k] 3)) Q _ := HROW.out.ext (by exact xx)
     have hr4 := (hb4.block Q hzQX).trans hrY
     have y3 : W4.cell? ⟨Q, 3, none⟩ = some (.slice sa' n' c') := by rw [cell_of_row _ _ _ _ _ _ hr4]; rfl
     have yf : W4.frozen? ⟨Q, 3, none⟩ = false := by simp [World.frozen?, hr4]
     have yz := (Array.getElem?_eq_some_iff.1 hr4).1
     have HR4 := Lib.hid hr4
     have HO4 := Lib.hid hown4
     have HK4 := Lib.hid ((HKP.out.trans (((Kept.refl _ Y).alloc (.cells #[.int .i64 k] 3)).mono fun j hj h => h)).trans ⟨hb4.os, hb4.tape, hb4.output, hb4.size, fun j _ hj => hb4.block j hj.1⟩ : Kept (fun j => j < X.heap.size ∧ j ≠ Q) X W4)
     clear hown4 hb4 hrY hr4 x3 xf
     go_wp2_with fail
     go_roundw
     case rel =>
      refine ⟨k + 1, va, vn, vc, by omega, by go_num, heap_setCell_row HR4.out 3 _, ?_, HK4.out.setCell (fun _ h => h.2 rfl) _⟩
      rw [HSU.out, if_pos HIN.out, List.map_append]
      exact HO4.out.setOther HR4.out (by decide) 3 _
     case measure => simp [intOf]; omega
    ·have HNI : Hid (¬ ((k : Int) = r ∨ outB b k = true)) := Lib.hid (by rw [not_or]; exact ⟨hkr, by unfold outB; simpa using ho⟩)
     clear hkr
     go_wp2_with fail
     go_roundw
     case rel => exact ⟨k + 1, sa', n', c', by omega, by go_num, HROW.out.ext hEY.out, by rw [HSU.out, if_neg HNI.out, List.append_nil]; exact HOWN.out.ext hEY.out, HKP.out.trans ((Kept.of_below hEY.out).mono fun j hj _ => hj)⟩
     case measure => simp [intOf]; omega
  ·have hkn : k = b.n.toNat := by omega
   have hall : outT b r k = sortL (b.scr ++ [r]) := by rw [hkn]; exact outT_sort V.out (by omega) HOB.out
   rw [hall] at hown
   obtain ⟨L, hL⟩ : ∃ L, L = sortL (b.scr ++ [r]) := ⟨_, rfl⟩
   rw [← hL] at hown
   obtain ⟨_, _, hge, -, -, -⟩ := hown.oneInts.spec
   cases hge
   have x0 := hrow.cell 0
   have x1 := hrow.cell 1
   have x2 := hrow.cell 2
   have x4 := hrow.cell 4
   have x5 := hrow.cell 5
   have x6 := hrow.cell 6
   have x7 := hrow.cell 7
   simp only [List.getElem?_toArray, List.getElem?_cons_zero, List.getElem?_cons_succ] at x0 x1 x2 x4 x5 x6 x7
   have HEw := Lib.hid hEw
   have hzr : RowB wr (w.heap.size + 1) zRow := (hkp.same _ HZX.out.lt ⟨HZX.out.lt, by omega⟩).trans HZX.out
   have z0 := (hzr).cell 0
   have z1 := (hzr).cell 1
   have z2 := (hzr).cell 2
   have z3 := (hzr).cell 3
   have z4 := (hzr).cell 4
   have z5 := (hzr).cell 5
   have z6 := (hzr).cell 6
   have z7 := (hzr).cell 7
   have zf := fun o => (hzr).fr o
   have zz := (hzr).lt
   simp only [zRow, List.getElem?_toArray, List.getElem?_cons_zero, List.getElem?_cons_succ] at z0 z1 z2 z3 z4 z5 z6 z7
   have HLL := Lib.hid hL
   have HI : Hid (IsInts wr .i64 (.slice sa' L.length c') L) := Lib.hid hown.oneInts
   have HBW : Hid (IsBets wr (.slice vba b.bets.length vbc) b.bets) := Lib.hid (IsRows.kept hkp (.inr fun g hg => (HVB.out g hg).1) HBX.out)
   clear hown hrow hkp hEw hall hL hzr
   go_wp2_with fail
   refine bodyPost_ret (v := .tuple #[bookV (scrP b r) vba vbc sa' c', .int .i64 0]) (by
    have hl : (sortL (b.scr ++ [r])).length = L.length := by rw [HLL.out]
    simp [results, Try.results20, go_sem, bookV, hl, z0, z1, z2, z3, z4, z5, z6, z7, scrP]) rfl ?_
   have hkF : ∀ (a b c d e f x y : Value), Kept (fun k => k ≠ w.heap.size + 1) wr ((((((((wr.setCell ⟨w.heap.size + 1, 0, none⟩ a).setCell ⟨w.heap.size + 1, 1, none⟩ b).setCell ⟨w.heap.size + 1, 2, none⟩ c).setCell ⟨w.heap.size + 1, 3, none⟩ d).setCell ⟨w.heap.size + 1, 4, none⟩ e).setCell ⟨w.heap.size + 1, 5, none⟩ f).setCell ⟨w.heap.size + 1, 6, none⟩ x).setCell ⟨w.heap.size + 1, 7, none⟩ y) := fun a b c d e f x y =>
    ((((((((Kept.refl _ wr).setCell (fun _ h => h rfl) _).setCell (fun _ h => h rfl) _).setCell (fun _ h => h rfl) _).setCell (fun _ h => h rfl) _).setCell (fun _ h => h rfl) _).setCell (fun _ h => h rfl) _).setCell (fun _ h => h rfl) _).setCell (fun _ h => h rfl) _
   refine ⟨ext_set8 HEw.out (Nat.le_succ _) _ _ _ _ _ _ _ _, .inr ⟨HS0.out, _, _, _, _, rfl, ?_, ?_⟩⟩
   ·exact IsRows.kept (hkF _ _ _ _ _ _ _ _) (.inr fun g hg => by have := (HVB.out g hg).2; omega) HBW.out
   ·have hs : (scrP b r).scr = L := HLL.out.symm
    rw [hs]
    exact IsRows.kept (hkF _ _ _ _ _ _ _ _) (.inr fun g hg => by have := (HOWN.out.notOwn g hg).1; omega) HI.out
end Go.Proofs.Ytphajlldghcnnaa
