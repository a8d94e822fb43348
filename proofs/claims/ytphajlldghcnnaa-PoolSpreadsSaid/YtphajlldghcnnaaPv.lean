/-
 The reference's Running; plainly: a book with runners scratched.
-/
import Derived.Test.YtphajlldghcnnaaPq
import Derived.Test.YtphajlldghcnnaaPk
namespace Go.Proofs.Ytphajlldghcnnaa
open Go.RowKit Go.Shelf
set_option maxRecDepth 100000 in
set_option maxHeartbeats 4000000 in
theorem runR_any (b : Bk) (ba sa : Option Addr) (bcap scap : Nat) (w : World) (hv : IsBook w b ba bcap sa scap) (v : BVal b) :
  Calls Try.prog 43 #[.agg #[.int .i64 b.kd, .int .i64 b.n, .slice ba b.bets.length bcap, .slice sa b.scr.length scap, .bool b.fav, .int .i64 b.car, .int .i64 b.duty, .int .i64 b.step]] w fun e w' => ∃ v, e = .returned v ∧ Ext w w' ∧ Owns w' w.heap.size 3 1 v ((runL b).map iRow) := by
 have hvn := v.n
 clear v
 have HV := Lib.hid hv
 clear hv
 go_enter Try.func43, Try.ntmps43
 go_upto_region 1 with (fail)
 obtain ⟨W0, hW0⟩ : ∃ W0, W0 = w.alloc (.cells #[.int .i64 b.kd, .int .i64 b.n, .slice ba b.bets.length bcap, .slice sa b.scr.length scap, .bool b.fav, .int .i64 b.car, .int .i64 b.duty, .int .i64 b.step] 25) := ⟨_, rfl⟩
 have hE : Ext w W0 := by rw [hW0]; exact xx
 have k0 : W0.cell? ⟨w.heap.size, 0, none⟩ = some (.int .i64 b.kd) := by rw [hW0]; simp [go_sem]
 have k1 : W0.cell? ⟨w.heap.size, 1, none⟩ = some (.int .i64 b.n) := by rw [hW0]; simp [go_sem]
 have k2 : W0.cell? ⟨w.heap.size, 2, none⟩ = some (.slice ba b.bets.length bcap) := by rw [hW0]; simp [go_sem]
 have k3 : W0.cell? ⟨w.heap.size, 3, none⟩ = some (.slice sa b.scr.length scap) := by rw [hW0]; simp [go_sem]
 have k4 : W0.cell? ⟨w.heap.size, 4, none⟩ = some (.bool b.fav) := by rw [hW0]; simp [go_sem]
 have k5 : W0.cell? ⟨w.heap.size, 5, none⟩ = some (.int .i64 b.car) := by rw [hW0]; simp [go_sem]
 have k6 : W0.cell? ⟨w.heap.size, 6, none⟩ = some (.int .i64 b.duty) := by rw [hW0]; simp [go_sem]
 have k7 : W0.cell? ⟨w.heap.size, 7, none⟩ = some (.int .i64 b.step) := by rw [hW0]; simp [go_sem]
 have hz : w.heap.size < W0.heap.size := World.block_lt_of_cell? _ _ k0
 have HS := Lib.hid (HV.out.ext hE)
 have HW := Lib.hid hE
 rw [← hW0]
 clear hW0 HV
 have hw0 := hE.size
 clear hE
 go_wp2_with fail
 go_loopw [3, 4] (fun ov iv W => ∃ k : Nat, (k : Int) ≤ b.n ∧ iv = .int .i64 k ∧ Owns W W0.heap.size 3 1 ov ((runK b k).map iRow) ∧ Ext W0 W) (fun _ iv _ => b.n.toNat - (intOf iv).toNat)
 case atStart => exact ⟨0, by omega, rfl, Owns.nil _ _ _ _, Below.refl _ _⟩
 case round =>
  obtain ⟨k, hk, rfl, hown, hE⟩ := hrel
  have HO := Lib.hid hown
  have HE := Lib.hid hE
  obtain ⟨oa, on, oc, rfl⟩ := hown.isSlice
  have i1 := cell_ext hE k1
  have i3 := cell_ext hE k3
  have iz := World.block_lt_of_cell? _ _ i1
  simp only at iz
  have hlen := runK_len b k
  have hsucc := runK_succ b k
  have HSU := Lib.hid hsucc
  have HSW := Lib.hid ((HS.out.ext hE).scr)
  by_cases hlt : (k : Int) < b.n
  ·clear hown hE hsucc k0 k1 k2 k3 k4 k5 k6 k7 hz
   go_wp2_with fail
   refine (has_any b.scr k _ _ (HSW.out.ext (by exact xx))).mono ?_
   rintro e Y ⟨rfl, hEY⟩
   have HEY := Lib.hid (HE.out.trans' hEY)
   have hyz := (HE.out.trans' hEY).size
   replace HO := Lib.hid (HO.out.ext hEY)
   clear hEY i1 i3 iz
   by_cases ho : (k : Int) ∈ b.scr
   ·have HOB : Hid (outB b k = true) := Lib.hid (by unfold outB; simpa using ho)
    go_wp2_with fail
    go_roundw
    case rel => exact ⟨k + 1, by omega, by go_num, by rw [HSU.out, if_pos HOB.out, List.append_nil]; exact HO.out, HEY.out⟩
    case measure => simp [intOf]; omega
   ·have HOB : Hid (¬ outB b k = true) := Lib.hid (by unfold outB; simpa using ho)
    have HLEN : Hid (((runK b k).map iRow).length + [[Value.int .i64 k]].length ≤ 1000000) := Lib.hid (by simp; omega)
    go_wp2_with (at_builtin; refine wpOwn rfl (.tmp 16) (.tmp 18) elInt rfl W0.heap.size rfl (HO.out.ext (by exact xx)) Y.heap.size 0 1 [[.int .i64 k]] rfl (by simp) (newRowAt _ [.int .i64 k] _ _ _ rfl rfl) (by simp [Value.oneCell']) HLEN.out (by simp; omega) ?_)
    intro v' W4 hown4 hb4
    obtain ⟨va, vn, vc, rfl⟩ := hown4.isSlice
    have hE4 : Ext W0 W4 := Below.trans (HEY.out.trans' (by exact xx : Ext Y (Y.alloc (.cells #[.int .i64 k] 3)))) hb4
    have HO4 := Lib.hid hown4
    have HE4 := Lib.hid hE4
    clear hown4 hb4 hE4
    go_wp2_with fail
    go_roundw
    case rel => exact ⟨k + 1, by omega, by go_num, by rw [HSU.out, if_neg HOB.out, List.map_append]; exact HO4.out, HE4.out⟩
    case measure => simp [intOf]; omega
  ·have hke : k = b.n.toNat := by omega
   have HO3 : Hid (Owns wr W0.heap.size 3 1 (.slice oa on oc) ((runL b).map iRow)) := Lib.hid (by rw [hke] at hown; exact hown)
   clear hown hE hke hsucc
   go_wp2_with fail
   refine bodyPost_ret (v := .slice oa on oc) (by simp [results, Try.results43, go_sem]) rfl ?_
   exact ⟨_, rfl, HW.out.trans' HE.out, HO3.out.base hw0⟩
theorem sortL_eq {l m : List Int} (h : l.Perm m) : sortL l = sortL m :=
 List.Perm.eq_of_pairwise (le := fun a b => decide (a ≤ b) = true) (fun a b _ _ h1 h2 => by simp at h1 h2; omega) (sortL_sorted l) (sortL_sorted m) (((sortL_perm l).trans h).trans (sortL_perm m).symm)
theorem scr_comm (b : Bk) (r s : Int) : scrP (scrP b r) s = scrP (scrP b s) r := by
 have e : sortL (sortL (b.scr ++ [r]) ++ [s]) = sortL (sortL (b.scr ++ [s]) ++ [r]) := by
  refine sortL_eq ?_
  refine ((sortL_perm _).append_right [s]).trans (List.Perm.trans ?_ ((sortL_perm _).append_right [r]).symm)
  rw [List.append_assoc, List.append_assoc]
  exact List.Perm.append_left _ List.perm_append_comm
 unfold scrP
 simp only [e]
theorem scr_len (b : Bk) (r : Int) : (scrP b r).scr.length = b.scr.length + 1 := by
 show (sortL (b.scr ++ [r])).length = _
 rw [sortL_len]; simp
theorem scr_out {b : Bk} {r x : Int} : outB (scrP b r) x = true ↔ outB b x = true ∨ x = r := by
 unfold outB
 rw [List.contains_iff_mem, List.contains_iff_mem]
 show x ∈ sortL (b.scr ++ [r]) ↔ _
 rw [(sortL_perm _).mem_iff]
 simp
theorem scr_run {b : Bk} {r x : Int} : x ∈ runL (scrP b r) ↔ x ∈ runL b ∧ x ≠ r := by
 rw [runL_mem, runL_mem]
 have h := scr_out (b := b) (r := r) (x := x)
 have h1 : outB (scrP b r) x = false ↔ outB b x = false ∧ x ≠ r := by
  rw [← Bool.not_eq_true, h, not_or, Bool.not_eq_true]
 rw [h1]
 show 0 ≤ x ∧ x < b.n ∧ _ ↔ _
 constructor
 ·rintro ⟨a, c, d, e⟩; exact ⟨⟨a, c, d⟩, e⟩
 ·rintro ⟨⟨a, c, d⟩, e⟩; exact ⟨a, c, d, e⟩
theorem scr_val {b : Bk} (v : BVal b) {r : Int} (hr : r ∈ runL b) (hl : 3 ≤ (runL b).length) : bkErr (scrP b r) = 0 ∧ scrErr b r = 0 := by
 have h3 := runL_len v
 have hr' := runL_mem.1 hr
 have hb0 : bkErr b = 0 := bk0 ⟨v.kd, v.n, v.car, v.duty, v.step⟩ v.many (fun x hx => by rw [isB_odd v.kd, v.odd x hx]; rfl) v.left fun i hi => by
  have := v.scr _ (List.getElem_mem hi)
  rw [gt_get hi] at this
  refine ⟨this, ?_⟩
  have h := v.inc
  unfold rising at h
  rw [Bool.not_eq_true', List.any_eq_false] at h
  simpa using h i (List.mem_range.2 hi)
 have hnm : r ∉ b.scr := fun h => by
  have := hr'.2.2
  unfold outB at this
  rw [List.contains_iff_mem.2 h] at this; cases this
 refine ⟨?_, ?_⟩
 ·have hlen := scr_len b r
  have hnd : (scrP b r).scr.Nodup := by
   show (sortL (b.scr ++ [r])).Nodup
   rw [(sortL_perm _).nodup_iff, List.nodup_append]
   exact ⟨rising_nodup v.inc, by simp, fun x hx y hy e => hnm (by simp only [List.mem_singleton] at hy; rw [← hy, ← e]; exact hx)⟩
  have hup : rising (scrP b r).scr = true := by
   rw [rising_iff]
   have h1 : (scrP b r).scr.Pairwise (fun a b => decide (a ≤ b) = true) := sortL_sorted _
   rw [List.nodup_iff_pairwise_ne] at hnd
   exact (h1.and hnd).imp fun ⟨h4, h5⟩ => by simp at h4; omega
  refine bk0 (b := scrP b r) ⟨v.kd, v.n, v.car, v.duty, v.step⟩ v.many (fun x hx => ?_) ?_ fun i hi => ⟨?_, ?_⟩
  ·have : isB (scrP b r) x = isB b x := rfl
   rw [this, isB_odd v.kd, v.odd x hx]; rfl
  ·show ((scrP b r).scr.length : Int) ≤ b.n - 2
   omega
  ·have hm : (scrP b r).scr[i] ∈ sortL (b.scr ++ [r]) := List.getElem_mem hi
   rw [gt_get hi] at hm
   rw [(sortL_perm _).mem_iff, List.mem_append, List.mem_singleton] at hm
   rcases hm with hm | hm
   ·exact v.scr _ hm
   ·rw [hm]; exact ⟨hr'.1, hr'.2.1⟩
  ·unfold rising at hup
   rw [Bool.not_eq_true', List.any_eq_false] at hup
   simpa using hup i (List.mem_range.2 hi)
 ·unfold scrErr
  rw [if_neg (fun h => h hb0), if_neg (by rw [isRun_iff.2 ⟨hr'.1, hr'.2.1⟩]; simp), if_neg (by rw [hr'.2.2]; simp), if_neg (by omega)]
theorem scr_have {b : Bk} {r : Int} (h : bkErr (scrP b r) = 0) (hr : 0 ≤ r ∧ r < b.n) : scrErr (scrP b r) r = 11 := by
 unfold scrErr
 rw [if_neg (fun e => e h), if_neg (by show ¬ isRun b.n r = false; rw [isRun_iff.2 hr]; simp), if_pos (scr_out.2 (.inr rfl))]
theorem scr_left {b : Bk} (v : BVal b) {r : Int} (_ : r ∈ runL b) (v2 : BVal (scrP b r)) : (runL (scrP b r)).length + 1 = (runL b).length := by
 have h1 := runL_len v
 have h2 := runL_len v2
 have h3 := scr_len b r
 have e : (scrP b r).n = b.n := rfl
 omega
end Go.Proofs.Ytphajlldghcnnaa
