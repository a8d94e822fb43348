/-
  The walks of the table's functions on states and their numbers.
  The shape of a table, and the walks of the functions that only read its rows: bound.
  Maps whose keys are read by one law: a lookup, a store, a deletion, and a range over them, as operations on a list of entries.
  The keys of a table's map: a state and its number.
  The walk of isSafe: is a state among the safe ones?
  The walks of visits and of its iterator: it yields the windows with the states after they are visited.
  Laws on append inside a fence (in the rounds of a range over a function): onto a slice that a call has made itself, and onto one without room.
  The walk of leads: the windows whose visit leads to a state that is left, if some pull.
  What doom turns: the rows and the map; what it finds in one round.
-/
import Derived.Test.YtndgaklcnhoddaaWa
import Derived.Test.YtndgaklcnhoddaaPl
import Derived.Test.YtndgaklcnhoddaaGm
import Derived.ArgAppend
import Derived.OwnWalkIn
namespace Go.Proofs.Ytndgaklcnhoddaa
open Go.RowKit Go.Shelf
/-- the head of a table: its hall -/
def THd (W : World) (p : Nat) (ks : List Int) : Prop := ∃ sa cap, W.cell? ⟨p, 0, none⟩ = some (.slice sa ks.length cap) ∧ IsInts W .i64 (.slice sa ks.length cap) ks
theorem THd.ext {W W' : World} {p : Nat} {ks : List Int} (h : THd W p ks) (e : Ext W W') : THd W' p ks := by
  obtain ⟨sa, cap, h1, h2⟩ := h
  exact ⟨sa, cap, cell_ext e h1, h2.ext e⟩
theorem stN_drop {ks : List Int} {j : Nat} (hj : j < ks.length) (n : Int) : (stN (ks.drop j) n).2 = (stN (ks.drop (j + 1)) n).2 / (gt ks j + 1) := by
  rw [List.drop_eq_getElem_cons hj, gt_get hj]
  rfl
theorem stOf_at : ∀ {ks : List Int} {j : Nat} (n : Int), j < ks.length → gt (stOf ks n) j = (stN (ks.drop (j + 1)) n).2 % (gt ks j + 1)
  | k :: ks, 0, n, _ => rfl
  | k :: ks, j + 1, n, h => by
    have := stOf_at (ks := ks) (j := j) n (by simpa using h)
    simpa [stOf, stN, gt] using this
theorem stOf_len (ks : List Int) (n : Int) : (stOf ks n).length = ks.length := by
  induction ks with
  | nil => rfl
  | cons k r ih => simp [stOf, stN] at ih ⊢; exact ih
theorem gt_off {s : List Int} {j : Nat} (h : s.length ≤ j) : gt s j = 0 := by
  unfold gt; rw [List.getD_eq_getElem?_getD, List.getElem?_eq_none h]; rfl
set_option maxRecDepth 100000 in
set_option maxHeartbeats 2000000 in
theorem state_any (ks : List Int) (p : Nat) (n : Nat) (w : World) (v : TVal ks) (ht : THd w p ks) (hn : n ≤ 1000000) :
    Calls Try.prog 97 #[.pointer (some ⟨p, 0, none⟩), .int .i64 n] w fun e W => e = .returned (stV (stOf ks n)) ∧ Ext w W := by
  obtain ⟨sa, cap, hk0, hs⟩ := ht
  obtain ⟨_, _, e, h1, h2, -⟩ := hs.spec
  cases e
  have HS := Lib.hid hs
  have V := Lib.hid v
  have n1 := v.n1
  have n5 := v.n5
  clear hs v
  go_enter Try.func97, Try.ntmps97
  go_upto_region 2 with (fail)
  obtain ⟨W0, hW0⟩ : ∃ W0, W0 = (w.alloc (.cells #[.int .i64 0, .int .i64 0, .int .i64 0, .int .i64 0, .int .i64 0] 73)).alloc (.cells #[.int .i64 0, .int .i64 0, .int .i64 0, .int .i64 0, .int .i64 0] 73) := ⟨_, rfl⟩
  have hE : Ext w W0 := by rw [hW0]; exact (by repeat (first | exact Below.refl _ _ | refine Ext.al ?_ _ | refine Ext.dr ?_ | refine Ext.drN ?_ _ | refine Ext.gr ?_ _ | refine Ext.set ?_ (by simp) _ | (refine Ext.trans' ?_ (by assumption))))
  have hr0 : W0.heap[w.heap.size]? = some (.cells #[.int .i64 0, .int .i64 0, .int .i64 0, .int .i64 0, .int .i64 0] 73 (0, 0)) := by
    rw [hW0]; show (Array.push (Array.push _ _) _)[w.heap.size]? = _; rw [Array.getElem?_push, if_neg (by simp), Array.getElem?_push, if_pos rfl]
  have hs0 : W0.heap[w.heap.size + 1]? = some (.cells #[.int .i64 0, .int .i64 0, .int .i64 0, .int .i64 0, .int .i64 0] 73 (0, 0)) := by
    rw [hW0]; show (Array.push (Array.push _ _) _)[w.heap.size + 1]? = _; rw [Array.getElem?_push, if_pos (by simp)]
  have k0 := cell_ext hE hk0
  have hz : p < w.heap.size := World.block_lt_of_cell? _ _ hk0
  rw [← hW0]
  have HE0 := Lib.hid hE
  have HS0 := Lib.hid hs0
  have HR0 := Lib.hid hr0
  clear hW0 hE hs0 hr0
  go_wp2_with fail
  go_loopw [1, 6] (fun nv i W => ∃ (k : Nat) (m : Int) (cur : Array Value), k ≤ ks.length ∧ nv = .int .i64 m ∧ i = .int .i64 ((k : Int) - 1) ∧ 0 ≤ m ∧ m ≤ 1000000 ∧ m = (stN (ks.drop k) n).2 ∧ Ext w W ∧ W.heap[w.heap.size + 1]? = some (.cells cur 73 (0, 0)) ∧ IntsB cur 5 .i64 (fun j => if k ≤ j then gt (stOf ks n) j else 0) ∧ W.heap[w.heap.size]? = some (.cells #[.int .i64 0, .int .i64 0, .int .i64 0, .int .i64 0, .int .i64 0] 73 (0, 0))) (fun _ i _ => (intOf i + 1).toNat)
  case atStart => exact ⟨ks.length, n, _, by omega, rfl, by go_num, by omega, by omega, by rw [List.drop_length]; rfl, HE0.out, HS0.out, (⟨rfl, fun j hj => match j, hj with | 0, _ => rfl | 1, _ => rfl | 2, _ => rfl | 3, _ => rfl | 4, _ => rfl⟩ : IntsB #[.int .i64 0, .int .i64 0, .int .i64 0, .int .i64 0, .int .i64 0] 5 .i64 (fun _ => 0)).congr fun j _ => by
    by_cases h : ks.length ≤ j
    · rw [if_pos h, gt_off (by rw [stOf_len]; exact h)]
    · rw [if_neg h], HR0.out⟩
  case round =>
    obtain ⟨k, m, cur, hk, rfl, rfl, hm0, hm1, hm, hE, hc, hI, hr⟩ := hrel
    have HR := Lib.hid hr
    have HI := Lib.hid hI
    have HC := Lib.hid hc
    have HE := Lib.hid hE
    have hzw : w.heap.size + 1 < wr.heap.size := (Array.getElem?_eq_some_iff.1 hc).1
    have k0' := cell_ext hE hk0
    by_cases hlt : 0 < k
    · obtain ⟨k, rfl⟩ : ∃ j, k = j + 1 := ⟨k - 1, by omega⟩
      have hkl : k < ks.length := by omega
      have hk5 : (k : Int) < 5 := by omega
      have hg0 : decide ((0 : Int) ≤ (k : Int)) = true := decide_eq_true (by omega)
      rcases HS.out.spec with ⟨sa', cap', e, -, -, hcc⟩
      cases e
      rcases hcc with hcc | ⟨b, off, rfl, hcc⟩
      · rw [hcc] at hkl; simp at hkl
      have c0w := hcc k hkl
      have hbl := World.block_lt_of_cell? _ _ c0w
      simp only at hbl
      have hne1 : (w.heap.size + 1 = b) = False := eq_false (by omega)
      have hne2 : (b = w.heap.size + 1) = False := eq_false (by omega)
      have c0 := cell_ext hE c0w
      rw [gt_get hkl] at c0
      clear c0w
      have hki : (k : Int) < (ks.length : Int) := by omega
      have hkb := V.out.at_ k hkl
      have e1 := stOf_at n hkl
      have e2 := stN_drop hkl n
      rw [← hm] at e1 e2
      obtain ⟨x, hx⟩ : ∃ x, x = gt ks k := ⟨_, rfl⟩
      have hxb : 1 ≤ x ∧ x ≤ 12 := by rw [hx]; exact hkb
      rw [← hx] at c0 e1 e2
      have hcast : ((k + 1 : Nat) : Int) - 1 = (k : Int) := by omega
      have ht1 : m.tmod (x + 1) = m % (x + 1) := Int.tmod_eq_emod_of_nonneg hm0
      have ht2 : m.tdiv (x + 1) = m / (x + 1) := Int.tdiv_eq_ediv_of_nonneg hm0
      have hm3 := Int.emod_nonneg m (show x + 1 ≠ 0 by omega)
      have hm4 := Int.emod_lt_of_pos m (show 0 < x + 1 by omega)
      have hd1 : 0 ≤ m / (x + 1) := Int.ediv_nonneg hm0 (by omega)
      have hd2 : m / (x + 1) ≤ m := Int.ediv_le_self _ hm0
      have hw1 : IntKind.i64.wrap (m % (x + 1)) = m % (x + 1) := IntWalk.i64_in _ (by omega)
      have hw2 : IntKind.i64.wrap (m / (x + 1)) = m / (x + 1) := IntWalk.i64_in _ (by omega)
      have hxz : (x + 1 == 0) = false := by simp; omega
      have hcell : wr.cell? ⟨w.heap.size + 1, k, none⟩ = some (.int .i64 0) := by
        rw [cell_of_row _ _ _ _ _ _ hc, hI.at_ k (by omega), if_neg (by omega)]
      have hfr : wr.frozen? ⟨w.heap.size + 1, k, none⟩ = false := by simp [World.frozen?, hc]
      have E1 := Lib.hid e1
      have E2 := Lib.hid e2
      clear hcc hx hE hc hI hr e1 e2 hm hkb
      rw [hcast]
      clear hcast
      go_wp2_with fail
      go_roundw
      case rel => exact ⟨k, m / (x + 1), cur.setIfInBounds k (.int .i64 (m % (x + 1))), by omega, rfl, by go_num, hd1, by omega, E2.out.symm, HE.out.setCell (by simp only; omega) _, heap_setCell_row HC.out k _, (HI.out.set k _).congr fun j hj => by
          show (if j = k then _ else (if k + 1 ≤ j then gt (stOf ks n) j else 0)) = if k ≤ j then gt (stOf ks n) j else 0
          by_cases e : j = k
          · subst e; rw [if_pos rfl, if_pos (Nat.le_refl _), E1.out]
          · rw [if_neg e]
            by_cases h : k ≤ j
            · rw [if_pos (show k + 1 ≤ j by omega), if_pos h]
            · rw [if_neg (show ¬ (k + 1 ≤ j) by omega), if_neg h], (Below.heap_setCell _ _ _ _ (by simp only; omega)).trans HR.out⟩
      case measure => simp [intOf] <;> omega
    · obtain rfl : k = 0 := by omega
      have hg0 : decide ((0 : Int) ≤ (0 : Int) - 1) = false := by decide
      have hcur := stA_of hI
      simp only [Nat.zero_le, if_true] at hcur
      subst hcur
      have hc := HC.out
      have d0 : wr.cell? ⟨w.heap.size + 1, 0, none⟩ = some (.int .i64 (gt (stOf ks n) 0)) := by rw [cell_of_row _ _ _ _ _ _ hc]; rfl
      have d1 : wr.cell? ⟨w.heap.size + 1, 1, none⟩ = some (.int .i64 (gt (stOf ks n) 1)) := by rw [cell_of_row _ _ _ _ _ _ hc]; rfl
      have d2 : wr.cell? ⟨w.heap.size + 1, 2, none⟩ = some (.int .i64 (gt (stOf ks n) 2)) := by rw [cell_of_row _ _ _ _ _ _ hc]; rfl
      have d3 : wr.cell? ⟨w.heap.size + 1, 3, none⟩ = some (.int .i64 (gt (stOf ks n) 3)) := by rw [cell_of_row _ _ _ _ _ _ hc]; rfl
      have d4 : wr.cell? ⟨w.heap.size + 1, 4, none⟩ = some (.int .i64 (gt (stOf ks n) 4)) := by rw [cell_of_row _ _ _ _ _ _ hc]; rfl
      have r0 : wr.cell? ⟨w.heap.size, 0, none⟩ = some (.int .i64 0) := by rw [cell_of_row _ _ _ _ _ _ hr]; rfl
      have r1 : wr.cell? ⟨w.heap.size, 1, none⟩ = some (.int .i64 0) := by rw [cell_of_row _ _ _ _ _ _ hr]; rfl
      have r2 : wr.cell? ⟨w.heap.size, 2, none⟩ = some (.int .i64 0) := by rw [cell_of_row _ _ _ _ _ _ hr]; rfl
      have r3 : wr.cell? ⟨w.heap.size, 3, none⟩ = some (.int .i64 0) := by rw [cell_of_row _ _ _ _ _ _ hr]; rfl
      have r4 : wr.cell? ⟨w.heap.size, 4, none⟩ = some (.int .i64 0) := by rw [cell_of_row _ _ _ _ _ _ hr]; rfl
      have rf : ∀ o, wr.frozen? ⟨w.heap.size, o, none⟩ = false := fun o => by simp [World.frozen?, hr]
      clear hc hI hr hE hm
      go_wp2_with fail
      refine bodyPost_ret (v := stV (stOf ks n)) (by simp [results, Try.results97, go_sem, stV, stA, r0, r1, r2, r3, r4]) rfl ⟨rfl, ?_⟩
      exact ((((HE.out.setCell (Nat.le_refl _) _).setCell (Nat.le_refl _) _).setCell (Nat.le_refl _) _).setCell (Nat.le_refl _) _).setCell (Nat.le_refl _) _
theorem numA_drop {ks s : List Int} {k : Nat} (hk : k < ks.length) (hl : s.length = ks.length) (a : Int) : numA a (ks.drop k) (s.drop k) = numA (a * (gt ks k + 1) + gt s k) (ks.drop (k + 1)) (s.drop (k + 1)) := by
  rw [List.drop_eq_getElem_cons hk, List.drop_eq_getElem_cons (show k < s.length by omega), numA, gt_get hk, gt_get (show k < s.length by omega)]
/-- the number so far stays below the number of states -/
def preK (ks : List Int) (k : Nat) : Int := prodK (ks.take k)
theorem prodK_app : ∀ (a b : List Int), prodK (a ++ b) = prodK a * prodK b
  | [], b => by simp [prodK]
  | x :: a, b => by rw [List.cons_append, prodK, prodK, prodK_app a b, Int.mul_assoc]
theorem preK_le {ks : List Int} (hk : ∀ k ∈ ks, 0 ≤ k) (j : Nat) : preK ks j ≤ prodK ks := by
  have e := prodK_app (ks.take j) (ks.drop j)
  rw [List.take_append_drop] at e
  have h1 := prodK_pos (ks := ks.drop j) fun x hx => hk x (List.mem_of_mem_drop hx)
  have h2 := prodK_pos (ks := ks.take j) fun x hx => hk x (List.mem_of_mem_take hx)
  unfold preK
  rw [e]
  have := Int.mul_le_mul_of_nonneg_left h1 (show 0 ≤ prodK (ks.take j) by omega)
  omega
theorem preK_succ {ks : List Int} {k : Nat} (hk : k < ks.length) : preK ks (k + 1) = preK ks k * (gt ks k + 1) := by
  unfold preK
  rw [List.take_add_one, List.getElem?_eq_getElem hk, prodK_app, gt_get hk]
  simp [prodK]
set_option maxRecDepth 100000 in
set_option maxHeartbeats 2000000 in
theorem num_any (ks s : List Int) (p : Nat) (w : World) (v : TVal ks) (hst : isSt ks s = true) (ht : THd w p ks) :
    Calls Try.prog 82 #[.pointer (some ⟨p, 0, none⟩), stV s] w fun e W => e = .returned (.int .i64 (numS ks s)) ∧ Ext w W := by
  obtain ⟨sa, cap, hk0, hs⟩ := ht
  obtain ⟨_, _, e, h1, h2, -⟩ := hs.spec
  cases e
  have HS := Lib.hid hs
  have V := Lib.hid v
  have n1 := v.n1
  have n5 := v.n5
  have hl := isSt_len hst
  have HST := Lib.hid hst
  rw [stV_eq]
  clear hs v hst
  go_enter Try.func82, Try.ntmps82
  go_upto_region 1 with (fail)
  have hb := Lib.hid (StB.new w s)
  obtain ⟨g0, hg0⟩ := grow_of (show Ext w (w.alloc (.cells #[.int .i64 (gt s 0), .int .i64 (gt s 1), .int .i64 (gt s 2), .int .i64 (gt s 3), .int .i64 (gt s 4)] 73)) by exact (by repeat (first | exact Below.refl _ _ | refine Ext.al ?_ _ | refine Ext.dr ?_ | refine Ext.drN ?_ _ | refine Ext.gr ?_ _ | refine Ext.set ?_ (by simp) _ | (refine Ext.trans' ?_ (by assumption)))))
  replace hb := hb.out
  rw [hg0] at hb ⊢
  have k0 := cell_ext (grow_below w g0) hk0
  have HB := Lib.hid hb
  clear hg0 hb
  go_wp2_with fail
  go_loopw [5, 14] (fun nv i W => ∃ (k : Nat) (m : Int), k ≤ ks.length ∧ nv = .int .i64 m ∧ i = .int .i64 k ∧ 0 ≤ m ∧ m < preK ks k ∧ numS ks s = numA m (ks.drop k) (s.drop k) ∧ Ext w W ∧ StB W w.heap.size s) (fun _ i _ => ks.length - (intOf i).toNat)
  case atStart => exact ⟨0, 0, by omega, rfl, rfl, by omega, by simp [preK, prodK], by simp [numS], grow_below w _, HB.out⟩
  case round =>
    clear HB
    obtain ⟨k, m, hk, rfl, rfl, hm0, hm1, hm, hE, hb⟩ := hrel
    have HB := Lib.hid hb
    have HE := Lib.hid hE
    have k0' := cell_ext hE hk0
    by_cases hlt : k < ks.length
    · have hk5 : (k : Int) < 5 := by omega
      have hki : (k : Int) < (ks.length : Int) := by omega
      rcases (HS.out.ext hE).spec with ⟨sa', cap', e, -, -, hcc⟩
      cases e
      rcases hcc with hcc | ⟨b, off, rfl, hcc⟩
      · rw [hcc] at hlt; simp at hlt
      have c0 := hcc k hlt
      rw [gt_get hlt] at c0
      have d0 := hb.c k (by omega)
      have hkb := V.out.at_ k hlt
      have hsb := isSt_gt HST.out k hlt
      have e1 := numA_drop (s := s) hlt hl m
      have e2 := preK_succ hlt
      have e3 := preK_le V.out.nn k
      have e4 := preK_le V.out.nn (k + 1)
      have e5 := V.out.pr
      obtain ⟨x, hx⟩ : ∃ x, x = gt ks k := ⟨_, rfl⟩
      obtain ⟨y, hy⟩ : ∃ y, y = gt s k := ⟨_, rfl⟩
      have hxb : 1 ≤ x ∧ x ≤ 12 := by rw [hx]; exact hkb
      rw [← hx, ← hy] at hsb e1
      rw [← hx] at c0 e2
      rw [← hy] at d0
      have hmul1 : m * (x + 1) ≤ (preK ks k - 1) * (x + 1) := Int.mul_le_mul_of_nonneg_right (by omega) (by omega)
      have hmul0 : 0 ≤ m * (x + 1) := Int.mul_nonneg hm0 (by omega)
      rw [Int.sub_mul] at hmul1
      have hlast : m * (x + 1) + y < preK ks (k + 1) := by rw [e2]; omega
      have hm1000 : m * (x + 1) ≤ 1000 := by omega
      have hw1 : IntKind.i64.wrap (m * (x + 1)) = m * (x + 1) := IntWalk.i64_in _ (by omega)
      have E1 := Lib.hid (hm.trans e1)
      clear hcc hx hy hm e1 e2 hE hb hmul1 hkb
      go_wp2_with fail
      go_roundw
      case rel => exact ⟨k + 1, m * (x + 1) + y, by omega, by go_num, by go_num, by omega, hlast, E1.out, HE.out, HB.out⟩
      case measure => simp [intOf]; omega
    · obtain rfl : k = ks.length := by omega
      rw [List.drop_length] at hm
      have hfin : numS ks s = m := by rw [hm]; cases hd : s.drop ks.length <;> rfl
      have HF := Lib.hid hfin
      clear hm hE hb hfin
      go_wp2_with fail
      go_ret
      exact ⟨ret_int HF.out.symm, HE.out⟩
end Go.Proofs.Ytndgaklcnhoddaa
namespace Go.Proofs.Ytndgaklcnhoddaa
open Go.RowKit Go.Shelf
/-- how many states there are -/
def nSt (ks : List Int) : Nat := (prodK ks).toNat
theorem nSt_eq {ks : List Int} (v : TVal ks) : (nSt ks : Int) = prodK ks := by
  have := prodK_pos v.nn
  unfold nSt; omega
theorem nSt_le {ks : List Int} (v : TVal ks) : 1 ≤ nSt ks ∧ nSt ks ≤ 1000 := by
  have := prodK_pos v.nn
  have := v.pr
  unfold nSt; omega
/-- to which states visits lead -/
def TNx (W : World) (p : Nat) (ks : List Int) : Prop := ∃ b off cap, W.cell? ⟨p, 2, none⟩ = some (.slice (some ⟨b, off, none⟩) (nSt ks) cap) ∧ nSt ks ≤ cap ∧ cap ≤ 9223372036854775807 ∧
  ∀ i, i < nSt ks → ∃ sa cp, W.cell? ⟨b, off + i, none⟩ = some (.slice sa (nxN ks i).length cp) ∧ IsInts W .i64 (.slice sa (nxN ks i).length cp) (nxN ks i)
/-- how many turns can be done -/
def TRw (W : World) (p : Nat) (ks : List Int) (rows : Int → Int) : Prop := ∃ b off cap, W.cell? ⟨p, 3, none⟩ = some (.slice (some ⟨b, off, none⟩) (nSt ks) cap) ∧ nSt ks ≤ cap ∧ cap ≤ 9223372036854775807 ∧
  ∀ i, i < nSt ks → W.cell? ⟨b, off + i, none⟩ = some (.int .i64 (rows i))
/-- the states -/
def TSt (W : World) (p : Nat) (ks : List Int) : Prop := ∃ b off cap, W.cell? ⟨p, 1, none⟩ = some (.slice (some ⟨b, off, none⟩) (nSt ks) cap) ∧ nSt ks ≤ cap ∧ cap ≤ 9223372036854775807 ∧
  ∀ i, i < nSt ks → ∀ j, j < 5 → W.cell? ⟨b, off + i * 5 + j, none⟩ = some (.int .i64 (gt (stOf ks i) j))
theorem TNx.ext {W W' : World} {p : Nat} {ks : List Int} (h : TNx W p ks) (e : Ext W W') : TNx W' p ks := by
  obtain ⟨b, off, cap, h1, h2, h3, h4⟩ := h
  exact ⟨b, off, cap, cell_ext e h1, h2, h3, fun i hi => by
    obtain ⟨sa, cp, a, c⟩ := h4 i hi
    exact ⟨sa, cp, cell_ext e a, c.ext e⟩⟩
theorem TRw.ext {W W' : World} {p : Nat} {ks : List Int} {rows : Int → Int} (h : TRw W p ks rows) (e : Ext W W') : TRw W' p ks rows := by
  obtain ⟨b, off, cap, h1, h2, h3, h4⟩ := h
  exact ⟨b, off, cap, cell_ext e h1, h2, h3, fun i hi => cell_ext e (h4 i hi)⟩
theorem TSt.ext {W W' : World} {p : Nat} {ks : List Int} (h : TSt W p ks) (e : Ext W W') : TSt W' p ks := by
  obtain ⟨b, off, cap, h1, h2, h3, h4⟩ := h
  exact ⟨b, off, cap, cell_ext e h1, h2, h3, fun i hi j hj => cell_ext e (h4 i hi j hj)⟩
/-- what bound answers -/
def bndV (o : Option Int) : Value := match o with
  | none => .tuple #[.int .i64 0, .bool false]
  | some m => .tuple #[.int .i64 m, .bool true]
theorem bndL_drop {rows : Int → Int} {l : List Int} {k : Nat} (hk : k < l.length) (n : Int) : bndL rows n (l.drop k) = if rows (gt l k) < 0 then none else bndL rows (max n (rows (gt l k) + 1)) (l.drop (k + 1)) := by
  rw [List.drop_eq_getElem_cons hk, bndL, gt_get hk]
theorem nxN_len {ks : List Int} (i : Int) : (nxN ks i).length ≤ ks.length := by
  unfold nxN nxS
  split <;> simp
set_option maxRecDepth 100000 in
set_option maxHeartbeats 2000000 in
theorem bound_any (ks : List Int) (rows : Int → Int) (p i : Nat) (w : World) (v : TVal ks) (hi : i < nSt ks) (hrb : ∀ x : Int, 0 ≤ x → x < prodK ks → -1 ≤ rows x ∧ rows x < 1000) (hn : TNx w p ks) (hr : TRw w p ks rows) :
    Calls Try.prog 110 #[.pointer (some ⟨p, 0, none⟩), .int .i64 i] w fun e W => e = .returned (bndV (bndL rows 0 (nxN ks i))) ∧ Ext w W := by
  obtain ⟨b, off, cap, c2, h1, h2, hb⟩ := hn
  obtain ⟨rb, ro, rc, c3, h3, h4, hrr⟩ := hr
  obtain ⟨sa, cp, ci, hs⟩ := hb i hi
  have hN := nSt_le v
  have hNe := nSt_eq v
  have hlen := nxN_len (ks := ks) (i : Int)
  have hmem := fun x hx => nxN_bd v (i := (i : Int)) (x := x) hx
  obtain ⟨l, hl⟩ : ∃ l, l = nxN ks i := ⟨_, rfl⟩
  rw [← hl] at ci hs hlen hmem ⊢
  obtain ⟨_, _, e, h5, h6, hcc⟩ := hs.spec
  cases e
  have n5 := v.n5
  have HS := Lib.hid hs
  have HM := Lib.hid hmem
  have HRR := Lib.hid hrr
  have HRB := Lib.hid hrb
  have hii : (i : Int) < (nSt ks : Int) := by omega
  clear hb hs hmem hrr hrb hl v hcc
  go_enter Try.func110, Try.ntmps110
  go_wp2_with fail
  go_loopw [6, 17] (fun nv j W => ∃ (k : Nat) (m : Int), k ≤ l.length ∧ nv = .int .i64 m ∧ j = .int .i64 k ∧ 0 ≤ m ∧ m ≤ 1000 ∧ bndL rows 0 l = bndL rows m (l.drop k) ∧ W = w) (fun _ j _ => l.length - (intOf j).toNat)
  case atStart => exact ⟨0, 0, by omega, rfl, rfl, by omega, by omega, by simp, rfl⟩
  case round =>
    obtain ⟨k, m, hk, rfl, rfl, hm0, hm1, hm, rfl⟩ := hrel
    by_cases hlt : k < l.length
    · rcases HS.out.spec with ⟨sa', cap', e, -, -, hcc⟩
      cases e
      rcases hcc with hcc | ⟨lb, lo, rfl, hcc⟩
      · rw [hcc] at hlt; simp at hlt
      have d0 := hcc k hlt
      have hxm := HM.out l[k] (List.getElem_mem hlt)
      rw [gt_get hlt] at d0 hxm
      have hst := bndL_drop (rows := rows) hlt m
      have hki : (k : Int) < (l.length : Int) := by omega
      obtain ⟨X, hX⟩ : ∃ X : Nat, gt l k = (X : Int) := ⟨(gt l k).toNat, by omega⟩
      rw [hX] at d0 hxm hst
      have hXn : X < nSt ks := by omega
      have hXi : (X : Int) < (nSt ks : Int) := by omega
      have e0 := HRR.out X hXn
      have eb := HRB.out X hxm.1 hxm.2
      obtain ⟨r, hr⟩ : ∃ r, r = rows X := ⟨_, rfl⟩
      rw [← hr] at e0 eb hst
      by_cases hneg : r < 0
      · rw [if_pos hneg] at hst
        have hd : decide (r < 0) = true := decide_eq_true hneg
        have HF := Lib.hid (hm.trans hst)
        clear hcc hr hm hst hX
        go_wp2_with fail
        refine bodyPost_ret (v := .tuple #[.int .i64 0, .bool false]) (by simp [results, Try.results110, go_sem]) rfl ⟨by rw [HF.out]; rfl, Below.refl _ _⟩
      · rw [if_neg hneg] at hst
        have hd : decide (r < 0) = false := decide_eq_false hneg
        have HF := Lib.hid (hm.trans hst)
        clear hcc hr hm hst hX
        have hmx : 0 ≤ max m (r + 1) ∧ max m (r + 1) ≤ 1000 := by omega
        go_wp2_with fail
        go_roundw
        case rel => exact ⟨k + 1, max m (r + 1), by omega, by simp; split <;> omega, by go_num, hmx.1, hmx.2, HF.out, trivial⟩
        case measure => simp [intOf]; omega
    · obtain rfl : k = l.length := by omega
      rw [List.drop_length] at hm
      have HF := Lib.hid hm
      clear hm
      go_wp2_with fail
      refine bodyPost_ret (v := .tuple #[.int .i64 m, .bool true]) (by simp [results, Try.results110, go_sem]) rfl ⟨by rw [HF.out]; rfl, Below.refl _ _⟩
end Go.Proofs.Ytndgaklcnhoddaa
namespace Go.Proofs.Ytndgaklcnhoddaa
open Go.RowKit Go.Shelf

section
variable {K V : Type} [DecidableEq K]
/-- the entries of a map: key, value, and when it came -/
abbrev Ents (K V : Type) := List (K × V × Nat)
def encE (ke : K → Value) (ve : V → Value) (e : K × V × Nat) : MapEntry := { key := ke e.1, val := ve e.2.1, born := e.2.2 }
def IsMap (ke : K → Value) (ve : V → Value) (W : World) (r : Nat) (es : Ents K V) (clock : Nat) : Prop :=
  W.heap[r]? = some (.map (es.map (encE ke ve)).toArray clock)
def lookFrom (ve : V → Value) (k : K) : Ents K V → Nat → Option (Nat × Value)
  | [], _ => none
  | e :: es, i => if e.1 = k then some (i, ve e.2.1) else lookFrom ve k es (i + 1)
def getE (es : Ents K V) (k : K) : Option V := (es.find? fun e => decide (e.1 = k)).map (·.2.1)
def updE (k : K) (v : V) (clock : Nat) (es : Ents K V) : Ents K V :=
  match es.findIdx? (fun e => decide (e.1 = k)) with
  | some i => es.modify i fun e => (k, v, e.2.2)
  | none => es ++ [(k, v, clock)]
def clockE (k : K) (clock : Nat) (es : Ents K V) : Nat := if (es.findIdx? (fun e => decide (e.1 = k))).isSome then clock else clock + 1
def delE (k : K) (es : Ents K V) : Ents K V := es.filter fun e => decide (e.1 ≠ k)

/-- how the operations on a map of these types run -/
structure Keyed (P : Program) (tm tk tv : TypeId) (ke : K → Value) (ve : V → Value) : Prop where
  und : P.underlying tm = some (.map tk tv)
  chk : ∀ b k w, (Instr.checkKey b 10000 tk (ke k)).run P w = .ok () w
  find : ∀ k (l : Ents K V) w, (Instr.findKey tk (ke k) (l.map (encE ke ve))).run P w = .ok (lookFrom ve k l 0) w
  stay : ∀ k, Instr.sameBits 10000 (ke k) (ke k) = true

theorem lookFrom_eq (ve : V → Value) (k : K) : ∀ (es : Ents K V) (i : Nat), lookFrom ve k es i = (es.findIdx? fun e => decide (e.1 = k)).bind fun j => (es[j]?).map fun e => (i + j, ve e.2.1)
  | [], _ => rfl
  | e :: es, i => by
    unfold lookFrom
    by_cases h : e.1 = k
    · simp [h, List.findIdx?_cons]
    · rw [if_neg h, lookFrom_eq ve k es (i + 1)]
      simp only [List.findIdx?_cons, h, decide_false, Bool.false_eq_true, if_false]
      cases es.findIdx? fun e => decide (e.1 = k) with
      | none => rfl
      | some j =>
        simp only [Option.map_some, Option.bind_some, List.getElem?_cons_succ]
        congr 1
        funext e
        simp; omega
theorem find_findIdx (k : K) (es : Ents K V) : es.find? (fun e => decide (e.1 = k)) = (es.findIdx? fun e => decide (e.1 = k)).bind (es[·]?) := by
  induction es with
  | nil => rfl
  | cons e es ih =>
    simp only [List.find?_cons, List.findIdx?_cons]
    by_cases h : e.1 = k
    · simp [h]
    · simp only [h, decide_false, Bool.false_eq_true, if_false]
      rw [ih]
      cases es.findIdx? fun e => decide (e.1 = k) <;> simp

theorem lookFrom_get (ve : V → Value) (k : K) (es : Ents K V) : (lookFrom ve k es 0).map (·.2) = (getE es k).map ve := by
  rw [lookFrom_eq, getE, find_findIdx]
  cases h : es.findIdx? fun e => decide (e.1 = k) with
  | none => rfl
  | some j => simp only [Option.bind_some, Option.map_map]; rfl

theorem getE_upd (k k' : K) (v : V) (clock : Nat) (es : Ents K V) : getE (updE k v clock es) k' = if k' = k then some v else getE es k' := by
  unfold getE updE
  cases h : es.findIdx? fun e => decide (e.1 = k) with
  | none =>
    rw [List.findIdx?_eq_none_iff] at h
    simp only [List.find?_append]
    by_cases hk : k' = k
    · subst hk
      rw [List.find?_eq_none.2 (by simpa using h)]
      simp
    · simp only [hk, if_false]
      cases hf : es.find? fun e => decide (e.1 = k') with
      | some e => simp
      | none => simp [Ne.symm hk]
  | some i =>
    rw [List.findIdx?_eq_some_iff_getElem] at h
    obtain ⟨hi, h1, h2⟩ := h
    have h1' : es[i].1 = k := by simpa using h1
    clear h1
    simp only
    induction es generalizing i with
    | nil => simp at hi
    | cons e es ih =>
      cases i with
      | zero =>
        simp only [List.getElem_cons_zero] at h1'
        simp only [List.modify_zero_cons, List.find?_cons]
        by_cases hk : k' = k
        · simp [hk]
        · have : e.1 ≠ k' := fun e' => hk (e'.symm.trans h1')
          simp [hk, Ne.symm hk, this]
      | succ i =>
        simp only [List.modify_succ_cons, List.find?_cons]
        have h0 := h2 0 (by omega)
        simp at h0
        by_cases he : e.1 = k'
        · have hk : k' ≠ k := fun h => h0 (he.trans h)
          simp [he, hk]
        · simp only [he, decide_false]
          exact ih i (by simpa using hi) (fun j hj => by have := h2 (j + 1) (by omega); simpa using this) (by simpa using h1')

theorem getE_del (k k' : K) (es : Ents K V) : getE (delE k es) k' = if k' = k then none else getE es k' := by
  unfold getE delE
  by_cases hk : k' = k
  · subst hk
    simp only [if_true, Option.map_eq_none_iff, List.find?_eq_none]
    intro e he
    simp at he ⊢
    exact he.2
  · simp only [hk, if_false]
    congr 1
    induction es with
    | nil => rfl
    | cons e es ih =>
      simp only [List.filter_cons]
      by_cases h : e.1 = k
      · simp only [h, ne_eq, not_true, decide_false, Bool.false_eq_true, if_false, List.find?_cons]
        have : ¬ k = k' := fun h => hk h.symm
        simp only [this, decide_false]
        exact ih
      · simp only [ne_eq, h, not_false_iff, decide_true, if_true, List.find?_cons]
        by_cases h' : e.1 = k'
        · simp [h']
        · simp only [h', decide_false]; exact ih

/-- the keys come once -/
def Once (es : Ents K V) : Prop := (es.map (·.1)).Nodup
theorem Once.upd {es : Ents K V} (h : Once es) (k : K) (v : V) (c : Nat) : Once (updE k v c es) := by
  unfold Once updE at *
  cases hf : es.findIdx? fun e => decide (e.1 = k) with
  | none =>
    rw [List.findIdx?_eq_none_iff] at hf
    simp only [List.map_append, List.map_cons, List.map_nil]
    rw [List.nodup_append]
    refine ⟨h, by simp, ?_⟩
    intro a ha b hb
    simp at hb
    subst hb
    rw [List.mem_map] at ha
    obtain ⟨e, he, rfl⟩ := ha
    simpa using hf e he
  | some i =>
    rw [List.findIdx?_eq_some_iff_getElem] at hf
    obtain ⟨hi, h1, _⟩ := hf
    have h1' : es[i].1 = k := by simpa using h1
    have : (es.modify i fun e => (k, v, e.2.2)).map (·.1) = es.map (·.1) := by
      apply List.ext_getElem (by simp)
      intro j hj1 hj2
      simp only [List.getElem_map, List.getElem_modify]
      split
      · rename_i e; subst e; exact h1'.symm
      · rfl
    simp only [this]; exact h
theorem Once.del {es : Ents K V} (h : Once es) (k : K) : Once (delE k es) := by
  unfold Once delE at *
  exact List.Nodup.sublist (List.Sublist.map _ List.filter_sublist) h
omit [DecidableEq K] in
theorem once_nil : Once ([] : Ents K V) := List.Pairwise.nil

variable {P : Program} {tm tk tv : TypeId} {ke : K → Value} {ve : V → Value} (hk : Keyed P tm tk tv ke ve)
include hk

theorem run_lookup_ok {W : World} {r : Nat} {es : Ents K V} {c : Nat} (hm : IsMap ke ve W r es c) (k : K) {v : V} (hg : getE es k = some v) :
    (Instr.lookup tm (.map (some r)) (ke k) true).run P W = .ok (.tuple #[ve v, .bool true]) W := by
  have h1 := lookFrom_get ve k es
  rw [hg] at h1
  obtain ⟨p, hp, hp2⟩ := Option.map_eq_some_iff.1 h1
  obtain ⟨i, u⟩ := p
  simp only at hp2
  subst hp2
  have hf := hk.find k es W
  rw [hp] at hf
  unfold IsMap at hm
  simp [Instr.lookup, run_underlying hk.und, getObj, Sem.run, hm, hk.chk, hf]
theorem run_lookup_none {W : World} {r : Nat} {es : Ents K V} {c : Nat} (hm : IsMap ke ve W r es c) (k : K) (hg : getE es k = none) {z : Value} (hz : ∀ w, (zeroValue tv).run P w = .ok z w) :
    (Instr.lookup tm (.map (some r)) (ke k) true).run P W = .ok (.tuple #[z, .bool false]) W := by
  have h1 := lookFrom_get ve k es
  rw [hg] at h1
  have hp : lookFrom ve k es 0 = none := by simpa using h1
  have hf := hk.find k es W
  rw [hp] at hf
  unfold IsMap at hm
  simp [Instr.lookup, run_underlying hk.und, getObj, Sem.run, hm, hk.chk, hf, hz]
theorem run_lookup1 {W : World} {r : Nat} {es : Ents K V} {c : Nat} (hm : IsMap ke ve W r es c) (k : K) {v : V} (hg : getE es k = some v) :
    (Instr.lookup tm (.map (some r)) (ke k) false).run P W = .ok (ve v) W := by
  have h1 := lookFrom_get ve k es
  rw [hg] at h1
  obtain ⟨p, hp, hp2⟩ := Option.map_eq_some_iff.1 h1
  obtain ⟨i, u⟩ := p
  simp only at hp2
  subst hp2
  have hf := hk.find k es W
  rw [hp] at hf
  unfold IsMap at hm
  simp [Instr.lookup, run_underlying hk.und, getObj, Sem.run, hm, hk.chk, hf]
theorem run_lookup1_none {W : World} {r : Nat} {es : Ents K V} {c : Nat} (hm : IsMap ke ve W r es c) (k : K) (hg : getE es k = none) {z : Value} (hz : ∀ w, (zeroValue tv).run P w = .ok z w) :
    (Instr.lookup tm (.map (some r)) (ke k) false).run P W = .ok z W := by
  have h1 := lookFrom_get ve k es
  rw [hg] at h1
  have hp : lookFrom ve k es 0 = none := by simpa using h1
  have hf := hk.find k es W
  rw [hp] at hf
  unfold IsMap at hm
  simp [Instr.lookup, run_underlying hk.und, getObj, Sem.run, hm, hk.chk, hf, hz]

theorem run_update {W : World} {r : Nat} {es : Ents K V} {c : Nat} (hm : IsMap ke ve W r es c) (k : K) (v : V) :
    (Instr.mapUpdate tm (.map (some r)) (ke k) (ve v)).run P W = .ok () (W.putObj r (.map ((updE k v c es).map (encE ke ve)).toArray (clockE k c es))) := by
  have hf := hk.find k es W
  rw [lookFrom_eq] at hf
  unfold IsMap at hm
  unfold updE clockE
  cases hi : es.findIdx? fun e => decide (e.1 = k) with
  | none =>
    rw [hi] at hf
    simp only [Option.bind_none] at hf
    simp [Instr.mapUpdate, run_underlying hk.und, getObj, setObj, Sem.run, hm, hk.chk, hf, World.putObj, encE]
  | some i =>
    rw [hi] at hf
    rw [List.findIdx?_eq_some_iff_getElem] at hi
    obtain ⟨hl, h1, _⟩ := hi
    have h1' : es[i].1 = k := by simpa using h1
    simp only [Option.bind_some, List.getElem?_eq_getElem hl, Option.map_some] at hf
    have hky : (((es.map (encE ke ve)).toArray[i]?).map (·.key)).getD (ke k) = ke k := by
      simp [hl, encE, h1']
    have e2 : ((es.map (encE ke ve)).modify i fun e => { e with key := ke k, val := ve v }) = (es.modify i fun e => (k, v, e.2.2)).map (encE ke ve) := by
      apply List.ext_getElem (by simp)
      intro j hj1 hj2
      simp only [List.getElem_modify, List.getElem_map]
      split
      · rename_i e; simp [encE]
      · rfl
    have hky' : (Option.map ((fun x => x.key) ∘ encE ke ve) es[i]?).getD (ke k) = ke k := by simpa using hky
    have hst : (Instr.keyThatStays (ke k) (ke k)).run P W = .ok (ke k) W := by simp [Instr.keyThatStays, hk.stay]
    simp [Instr.mapUpdate, run_underlying hk.und, getObj, setObj, Sem.run, hm, hk.chk, hf, World.putObj]
    rw [hky', hst]
    simp [hm, e2]

omit [DecidableEq K] hk in
theorem eraseIdx_map' {α β : Type} (f : α → β) : ∀ (l : List α) (i : Nat), (l.map f).eraseIdx i = (l.eraseIdx i).map f
  | [], _ => rfl
  | _ :: _, 0 => rfl
  | a :: l, i + 1 => by simp [eraseIdx_map' f l i]
theorem run_delete {W : World} {r : Nat} {es : Ents K V} {c : Nat} (hm : IsMap ke ve W r es c) (ho : Once es) (k : K) (ty : TypeId) :
    (Builtin.delete_ #[tm, tk] ty #[.map (some r), ke k]).run P W = .ok (.tuple #[]) (W.putObj r (.map ((delE k es).map (encE ke ve)).toArray c)) := by
  have hf := hk.find k es W
  rw [lookFrom_eq] at hf
  unfold IsMap at hm
  cases hi : es.findIdx? fun e => decide (e.1 = k) with
  | none =>
    rw [hi] at hf
    simp only [Option.bind_none] at hf
    rw [List.findIdx?_eq_none_iff] at hi
    have e : delE k es = es := by
      unfold delE
      rw [List.filter_eq_self]
      intro a ha
      simpa using hi a ha
    rw [e]
    simp [Builtin.delete_, run_underlying hk.und, getObj, setObj, Sem.run, hm, hk.chk, hf, World.putObj]
  | some i =>
    rw [hi] at hf
    rw [List.findIdx?_eq_some_iff_getElem] at hi
    obtain ⟨hl, h1, _⟩ := hi
    have h1' : es[i].1 = k := by simpa using h1
    simp only [Option.bind_some, List.getElem?_eq_getElem hl, Option.map_some] at hf
    have e : delE k es = es.eraseIdx i := by
      unfold delE
      clear hm hf
      induction es generalizing i with
      | nil => simp at hl
      | cons a es ih =>
        unfold Once at ho
        simp only [List.map_cons, List.nodup_cons] at ho
        cases i with
        | zero =>
          simp only [List.getElem_cons_zero] at h1'
          simp only [List.eraseIdx_cons_zero, List.filter_cons, h1', ne_eq, not_true, decide_false, Bool.false_eq_true, if_false]
          rw [List.filter_eq_self]
          intro b hb
          have : b.1 ≠ a.1 := fun e => ho.1 (by rw [← e]; exact List.mem_map_of_mem hb)
          rw [h1'] at this
          simpa using this
        | succ i =>
          simp only [List.eraseIdx_cons_succ, List.filter_cons]
          have hne : a.1 ≠ k := fun e => ho.1 (by
            rw [e, ← h1']
            simp only [List.getElem_cons_succ]
            exact List.mem_map_of_mem (List.getElem_mem _))
          simp only [ne_eq, hne, not_false_iff, decide_true, if_true]
          rw [ih ho.2 i (by simpa using hl) (by simpa using h1) (by rename_i hh; intro j hj; have := hh (j+1) (by omega); simpa using this) (by simpa using h1')]
    have e2 : ((es.map (encE ke ve)).toArray.eraseIdxIfInBounds i) = ((delE k es).map (encE ke ve)).toArray := by
      rw [e]
      rw [← eraseIdx_map']
      simp
    simp [Builtin.delete_, run_underlying hk.und, getObj, setObj, Sem.run, hm, hk.chk, hf, World.putObj]
    rw [← e2]
    simp

theorem run_range {W : World} {r : Nat} {es : Ents K V} {c : Nat} (hm : IsMap ke ve W r es c) :
    (Instr.range tm (.map (some r))).run P W = .ok (.pointer (some ⟨W.heap.size, 0, none⟩)) (W.alloc (.mapIter (some r) c #[] c)) := by
  unfold IsMap at hm
  simp [Instr.range, run_underlying hk.und, getObj, Sem.run, hm]

omit [DecidableEq K] hk in
/-- one step of a range over a map into which nothing comes meanwhile: it is over, or some entry is met that was not met before -/
theorem run_next {W : World} {r it : Nat} {es : Ents K V} {c : Nat} {seen : Array Nat} (hm : IsMap ke ve W r es c) (hi : W.heap[it]? = some (.mapIter (some r) c seen c)) (hb : ∀ e ∈ es, e.2.2 < c) :
    ((∀ e ∈ es, e.2.2 ∈ seen) ∧ ∀ ty, (Instr.next (.pointer (some ⟨it, 0, none⟩)) false ty).run P W = .ok (.tuple #[.bool false]) W) ∨
    ∃ e ∈ es, e.2.2 ∉ seen ∧ ∃ W', W'.heap = (W.putObj it (.mapIter (some r) c (seen.push e.2.2) c)).heap ∧ W'.os = W.os ∧ W'.tape = W.tape ∧ W'.output = W.output ∧
      ∀ ty, (Instr.next (.pointer (some ⟨it, 0, none⟩)) false ty).run P W = .ok (.tuple #[.bool true, ke e.1, ve e.2.1]) W' := by
  unfold IsMap at hm
  have hns : (!seen.isEmpty && !(es.map (encE ke ve)).toArray.isEmpty && (es.map (encE ke ve)).toArray.all (·.born ≥ c)) = false := by
    cases es with
    | nil => simp
    | cons e es =>
      have := hb e (by simp)
      simp [encE]
      intro _ h
      omega
  let left := (es.map (encE ke ve)).toArray.filter fun e => !seen.contains e.born
  have hleft : ∀ x ∈ left, ∃ e ∈ es, e.2.2 ∉ seen ∧ x = encE ke ve e := by
    intro x hx
    simp only [left, Array.mem_filter, List.mem_toArray, List.mem_map] at hx
    obtain ⟨⟨e, he, rfl⟩, h2⟩ := hx
    exact ⟨e, he, by simpa [encE] using h2, rfl⟩
  have hold : left.filter (·.born < c) = left := by
    rw [Array.filter_eq_self]
    intro x hx
    obtain ⟨e, he, _, rfl⟩ := hleft x hx
    exact decide_eq_true (hb e he)
  have hnew : left.filter (·.born ≥ c) = #[] := by
    rw [Array.filter_eq_empty_iff]
    intro x hx
    obtain ⟨e, he, _, rfl⟩ := hleft x hx
    have := hb e he
    simp [encE]; omega
  by_cases h0 : left = #[]
  · refine .inl ⟨fun e he => ?_, ?_⟩
    · by_cases hs : e.2.2 ∈ seen
      · exact hs
      · exfalso
        have : encE ke ve e ∈ left := by
          simp only [left, Array.mem_filter, List.mem_toArray]
          exact ⟨List.mem_map_of_mem he, by simpa [encE] using hs⟩
        rw [h0] at this
        simp at this
    · intro ty
      simp only [left] at h0 hold hnew
      simp only [Instr.next, Sem.run_bind, getObj, Sem.run, hi, hm, Result.andThen_ok]
      simp only [hns, Bool.false_eq_true, if_false, Sem.run_bind, h0]
      simp [choose, Sem.run, Question.forced]
  · right
    have hne : left.isEmpty = false := by simpa using h0
    let cand := (if left.isEmpty then #[none] else #[]) ++ (left ++ (#[] : Array MapEntry)).map some
    have hcand : cand = left.map some := by simp [cand, hne]
    have hsz : 0 < left.size := by
      rcases Nat.eq_zero_or_pos left.size with h | h
      · exact absurd (Array.size_eq_zero_iff.1 h) h0
      · exact h
    have pick : ∀ j, j < left.size → ∃ e ∈ es, e.2.2 ∉ seen ∧ (left.map some)[j]? = some (some (encE ke ve e)) := by
      intro j hj
      obtain ⟨e, he, hs, hx⟩ := hleft left[j] (Array.getElem_mem hj)
      exact ⟨e, he, hs, by simp [hj, hx]⟩
    have run : ∀ (j : Nat) (W2 : World) (e : K × V × Nat), (choose (.mapNext left.size)).run P W = .ok j W2 → W2.heap = W.heap → W2.os = W.os → W2.tape = W.tape → W2.output = W.output → (left.map some)[j]? = some (some (encE ke ve e)) →
        ∃ W', W'.heap = (W.putObj it (.mapIter (some r) c (seen.push e.2.2) c)).heap ∧ W'.os = W.os ∧ W'.tape = W.tape ∧ W'.output = W.output ∧
          ∀ ty, (Instr.next (.pointer (some ⟨it, 0, none⟩)) false ty).run P W = .ok (.tuple #[.bool true, ke e.1, ve e.2.1]) W' := by
      intro j W2 e hch hh ho ht hp he
      refine ⟨W2.putObj it (.mapIter (some r) c (seen.push e.2.2) c), by simp [World.putObj, hh], ho, ht, hp, fun ty => ?_⟩
      have hi2 : W2.heap[it]? = some (.mapIter (some r) c seen c) := by rw [hh]; exact hi
      simp only [left] at hold hnew hne hch he
      simp only [Instr.next, Sem.run_bind, getObj, Sem.run, hi, hm, Result.andThen_ok]
      simp only [hns, Bool.false_eq_true, if_false, Sem.run_bind, Sem.run_pure, Result.andThen_ok, hold, hnew, hne, Array.append_empty, Array.empty_append, Array.size_map, hch, he]
      simp [setObj, Sem.run, hi2, World.putObj, encE]
    by_cases h1 : left.size ≤ 1
    · obtain ⟨e, he, hs, hx⟩ := pick 0 hsz
      obtain ⟨W', a1, a2, a3, a4, a5⟩ := run 0 W e (by simp [choose, Sem.run, Question.forced, h1]) rfl rfl rfl rfl hx
      exact ⟨e, he, hs, W', a1, a2, a3, a4, a5⟩
    · obtain ⟨e, he, hs, hx⟩ := pick ((Question.mapNext left.size).cut (W.tape W.drawn (.mapNext left.size))) (by simp [Question.cut]; exact Nat.mod_lt _ hsz)
      obtain ⟨W', a1, a2, a3, a4, a5⟩ := run _ { W with drawn := W.drawn + 1 } e (by simp [choose, Sem.run, Question.forced, h1]) rfl rfl rfl rfl hx
      exact ⟨e, he, hs, W', a1, a2, a3, a4, a5⟩

omit [DecidableEq K] hk in
theorem run_entry {W : World} {r it : Nat} {es : Ents K V} {c : Nat} {seen : Array Nat} {e : K × V × Nat} (hm : IsMap ke ve W r es c) (hi : W.heap[it]? = some (.mapIter (some r) c (seen.push e.2.2) c))
    (he : e ∈ es) (hb : (es.map (·.2.2)).Nodup) :
    (Instr.entry (.pointer (some ⟨it, 0, none⟩))).run P W = .ok (.tuple #[ke e.1, ve e.2.1]) W := by
  unfold IsMap at hm
  have hf : (es.map (encE ke ve)).find? (fun x => x.born == e.2.2) = some (encE ke ve e) := by
    clear hm
    induction es with
    | nil => simp at he
    | cons a es ih =>
      simp only [List.map_cons, List.find?_cons]
      simp only [List.map_cons, List.nodup_cons] at hb
      by_cases h : a.2.2 = e.2.2
      · have : a = e := by
          rcases List.mem_cons.1 he with rfl | h'
          · rfl
          · exact absurd (by rw [h]; exact List.mem_map_of_mem h') hb.1
        subst this
        simp [encE]
      · have : ((encE ke ve a).born == e.2.2) = false := by simpa [encE] using h
        rw [this]
        have he' : e ∈ es := by
          rcases List.mem_cons.1 he with rfl | h'
          · exact absurd rfl h
          · exact h'
        exact ih he' hb.2
  simp [Instr.entry, getObj, Sem.run, hi, hm, hf, encE]

omit hk in
/-- no two entries came at once, and all came before now -/
def Borns (es : Ents K V) (c : Nat) : Prop := (es.map (·.2.2)).Nodup ∧ ∀ e ∈ es, e.2.2 < c
omit hk in
theorem Borns.upd {es : Ents K V} {c : Nat} (h : Borns es c) (k : K) (v : V) : Borns (updE k v c es) (clockE k c es) := by
  unfold Borns updE clockE at *
  cases hf : es.findIdx? fun e => decide (e.1 = k) with
  | none =>
    refine ⟨?_, ?_⟩
    · simp only [List.map_append, List.map_cons, List.map_nil]
      rw [List.nodup_append]
      refine ⟨h.1, by simp, ?_⟩
      intro a ha b hb
      simp at hb
      subst hb
      rw [List.mem_map] at ha
      obtain ⟨e, he, rfl⟩ := ha
      have := h.2 e he
      omega
    · intro e he
      simp only [List.mem_append, List.mem_singleton] at he
      rcases he with he | rfl
      · have := h.2 e he
        simp; omega
      · simp
  | some i =>
    have hm : (es.modify i fun e => (k, v, e.2.2)).map (·.2.2) = es.map (·.2.2) := by
      apply List.ext_getElem (by simp)
      intro j hj1 hj2
      simp only [List.getElem_map, List.getElem_modify]
      split <;> rfl
    refine ⟨by simp only [hm]; exact h.1, ?_⟩
    intro e he
    have : e.2.2 ∈ (es.modify i fun e => (k, v, e.2.2)).map (·.2.2) := List.mem_map_of_mem he
    rw [hm, List.mem_map] at this
    obtain ⟨e', he', e2⟩ := this
    have := h.2 e' he'
    simp; omega
omit hk in
theorem Borns.del {es : Ents K V} {c : Nat} (h : Borns es c) (k : K) : Borns (delE k es) c := by
  unfold Borns delE at *
  exact ⟨List.Nodup.sublist (List.Sublist.map _ List.filter_sublist) h.1, fun e he => h.2 e (List.mem_filter.1 he).1⟩
omit hk in
/-- a map that holds F -/
def MapIs (ke : K → Value) (ve : V → Value) (W : World) (r : Nat) (F : K → Option V) : Prop :=
  ∃ es c, IsMap ke ve W r es c ∧ Once es ∧ Borns es c ∧ ∀ k, getE es k = F k
omit hk in
theorem MapIs.of_heap {W W' : World} {r : Nat} {F : K → Option V} (h : MapIs ke ve W r F) (e : W'.heap[r]? = W.heap[r]?) : MapIs ke ve W' r F := by
  obtain ⟨es, c, h1, h2⟩ := h
  exact ⟨es, c, e.trans h1, h2⟩
omit hk in
theorem MapIs.ext {W W' : World} {r : Nat} {F : K → Option V} (h : MapIs ke ve W r F) (e : Below W.heap.size W W') : MapIs ke ve W' r F := by
  refine h.of_heap (e.block r ?_)
  obtain ⟨es, c, h1, _⟩ := h
  exact (Array.getElem?_eq_some_iff.1 h1).1
omit hk in
theorem MapIs.lt {W : World} {r : Nat} {F : K → Option V} (h : MapIs ke ve W r F) : r < W.heap.size := by
  obtain ⟨es, c, h1, _⟩ := h
  exact (Array.getElem?_eq_some_iff.1 h1).1
omit hk in
theorem mapIs_new (W : World) : MapIs ke ve (W.alloc (.map #[] 0)) W.heap.size (fun _ : K => (none : Option V)) :=
  ⟨[], 0, World.alloc_heap_new W _, once_nil, ⟨List.Pairwise.nil, fun _ h => by cases h⟩, fun _ => rfl⟩
theorem MapIs.upd {W : World} {r : Nat} {F : K → Option V} (h : MapIs ke ve W r F) (k : K) (v : V) :
    ∃ W', (Instr.mapUpdate tm (.map (some r)) (ke k) (ve v)).run P W = .ok () W' ∧ W.grownBy W' (some r) ∧ W'.heap.size = W.heap.size ∧ MapIs ke ve W' r (fun k' => if k' = k then some v else F k') := by
  have hl := h.lt
  obtain ⟨es, c, h1, h2, h3, h4⟩ := h
  refine ⟨_, run_update hk h1 k v, ?_, by simp, ?_⟩
  · exact ⟨rfl, rfl, rfl, by simp, fun j hj hne => World.putObj_heap_other (fun e => hne (by rw [e]))⟩
  · exact ⟨_, _, World.putObj_heap_same hl, h2.upd k v c, h3.upd k v, fun k' => by rw [getE_upd, h4]⟩
theorem MapIs.look {W : World} {r : Nat} {F : K → Option V} (h : MapIs ke ve W r F) (k : K) {v : V} (hg : F k = some v) :
    (Instr.lookup tm (.map (some r)) (ke k) false).run P W = .ok (ve v) W := by
  obtain ⟨es, c, h1, h2, h3, h4⟩ := h
  exact run_lookup1 hk h1 k ((h4 k).trans hg)
theorem MapIs.look_ok {W : World} {r : Nat} {F : K → Option V} (h : MapIs ke ve W r F) (k : K) {v : V} (hg : F k = some v) :
    (Instr.lookup tm (.map (some r)) (ke k) true).run P W = .ok (.tuple #[ve v, .bool true]) W := by
  obtain ⟨es, c, h1, h2, h3, h4⟩ := h
  exact run_lookup_ok hk h1 k ((h4 k).trans hg)
theorem MapIs.look_none {W : World} {r : Nat} {F : K → Option V} (h : MapIs ke ve W r F) (k : K) (hg : F k = none) {z : Value} (hz : ∀ w, (zeroValue tv).run P w = .ok z w) :
    (Instr.lookup tm (.map (some r)) (ke k) true).run P W = .ok (.tuple #[z, .bool false]) W := by
  obtain ⟨es, c, h1, h2, h3, h4⟩ := h
  exact run_lookup_none hk h1 k ((h4 k).trans hg) hz
theorem MapIs.del {W : World} {r : Nat} {es : Ents K V} {c : Nat} (h1 : IsMap ke ve W r es c) (h2 : Once es) (h3 : Borns es c) (k : K) (ty : TypeId) :
    ∃ W', (Builtin.delete_ #[tm, tk] ty #[.map (some r), ke k]).run P W = .ok (.tuple #[]) W' ∧ W.grownBy W' (some r) ∧ W'.heap.size = W.heap.size ∧ IsMap ke ve W' r (delE k es) c ∧ Once (delE k es) ∧ Borns (delE k es) c := by
  have hl : r < W.heap.size := (Array.getElem?_eq_some_iff.1 h1).1
  refine ⟨_, run_delete hk h1 h2 k ty, ?_, by simp, World.putObj_heap_same hl, h2.del k, h3.del k⟩
  exact ⟨rfl, rfl, rfl, by simp, fun j hj hne => World.putObj_heap_other (fun e => hne (by rw [e]))⟩

omit [DecidableEq K] hk in
theorem nodup_inj {α β : Type} (f : α → β) : ∀ (l : List α), (l.map f).Nodup → ∀ a ∈ l, ∀ b ∈ l, f a = f b → a = b
  | [], _, _, ha, _, _, _ => by cases ha
  | x :: l, h, a, ha, b, hb, e => by
    simp only [List.map_cons, List.nodup_cons] at h
    rcases List.mem_cons.1 ha with rfl | ha' <;> rcases List.mem_cons.1 hb with rfl | hb'
    · rfl
    · exact absurd (by rw [e]; exact List.mem_map_of_mem hb') h.1
    · exact absurd (by rw [← e]; exact List.mem_map_of_mem ha') h.1
    · exact nodup_inj f l h.2 a ha' b hb' e
omit hk in
theorem getE_filter {es : Ents K V} (ho : Once es) (p : V → Bool) (k : K) : getE (es.filter fun e => p e.2.1) k = (getE es k).filter p := by
  unfold getE Once at *
  induction es with
  | nil => rfl
  | cons e es ih =>
    simp only [List.map_cons, List.nodup_cons] at ho
    simp only [List.filter_cons, List.find?_cons]
    by_cases h : e.1 = k
    · subst h
      by_cases hp : p e.2.1 = true
      · simp [hp, Option.filter]
      · have hn : (es.filter fun e => p e.2.1).find? (fun a => decide (a.1 = e.1)) = none := by
          rw [List.find?_eq_none]
          intro a ha
          have := (List.mem_filter.1 ha).1
          simp only [decide_eq_true_eq]
          exact fun h => ho.1 (by rw [← h]; exact List.mem_map_of_mem this)
        simp [hp, hn, Option.filter]
    · by_cases hp : p e.2.1 = true
      · simp only [hp, if_true, List.find?_cons, h, decide_false]; exact ih ho.2
      · simp only [hp, h, decide_false]; exact ih ho.2
omit hk in
/-- which entries are left when those that were met and are bad have been taken out -/
def keepE (bad : V → Bool) (seen : Array Nat) (e : K × V × Nat) : Bool := !(decide (e.2.2 ∈ seen) && bad e.2.1)
omit hk in
theorem keep_del {es : Ents K V} {c : Nat} (ho : Once es) (hb : Borns es c) (bad : V → Bool) (seen : Array Nat) {e : K × V × Nat} (he : e ∈ es) (hx : bad e.2.1 = true) :
    delE e.1 (es.filter (keepE bad seen)) = es.filter (keepE bad (seen.push e.2.2)) := by
  unfold delE
  rw [List.filter_filter]
  refine List.filter_congr fun a ha => ?_
  by_cases h : a = e
  · subst h
    simp [keepE, hx]
  · have h1 : a.1 ≠ e.1 := fun h' => h (nodup_inj _ es ho a ha e he h')
    have h2 : a.2.2 ≠ e.2.2 := fun h' => h (nodup_inj _ es hb.1 a ha e he h')
    simp [keepE, h1, h2]
omit [DecidableEq K] hk in
theorem keep_same {es : Ents K V} {c : Nat} (hb : Borns es c) (bad : V → Bool) (seen : Array Nat) {e : K × V × Nat} (he : e ∈ es) (hx : bad e.2.1 = false) :
    es.filter (keepE bad seen) = es.filter (keepE bad (seen.push e.2.2)) := by
  refine List.filter_congr fun a ha => ?_
  by_cases h : a = e
  · subst h
    simp [keepE, hx]
  · have h2 : a.2.2 ≠ e.2.2 := fun h' => h (nodup_inj _ es hb.1 a ha e he h')
    simp [keepE, h2]
omit [DecidableEq K] hk in
theorem keep_done {es : Ents K V} (bad : V → Bool) (seen : Array Nat) (hs : ∀ e ∈ es.filter (keepE bad seen), e.2.2 ∈ seen) :
    es.filter (keepE bad seen) = es.filter fun e => !(bad e.2.1) := by
  refine List.filter_congr fun a ha => ?_
  by_cases hb : bad a.2.1 = true
  · by_cases h : a.2.2 ∈ seen
    · simp [keepE, h]
    · have := hs a (List.mem_filter.2 ⟨ha, by simp [keepE, h]⟩)
      exact absurd this h
  · simp [keepE, hb]
/-- how many entries have not been met yet, read off the world -/
def unmet (es : Ents K V) (it : Nat) (W : World) : Nat :=
  match W.heap[it]? with
  | some (.mapIter _ _ seen _) => (es.filter fun e => decide (e.2.2 ∉ seen)).length
  | _ => 0
omit [DecidableEq K] hk in
theorem unmet_lt {es : Ents K V} {seen : Array Nat} {e : K × V × Nat} (he : e ∈ es) (hs : e.2.2 ∉ seen) :
    (es.filter fun a => decide (a.2.2 ∉ seen.push e.2.2)).length < (es.filter fun a => decide (a.2.2 ∉ seen)).length := by
  have e1 : (es.filter fun a => decide (a.2.2 ∉ seen.push e.2.2)) = (es.filter fun a => decide (a.2.2 ∉ seen)).filter fun a => decide (a.2.2 ≠ e.2.2) := by
    rw [List.filter_filter]
    refine List.filter_congr fun a _ => ?_
    simp only [Array.mem_push, not_or]
    rw [Bool.eq_iff_iff]; simp; exact and_comm
  rw [e1]
  refine List.length_filter_lt_length_iff_exists.2 ⟨e, List.mem_filter.2 ⟨he, by simpa using hs⟩, by simp⟩
end
end Go.Proofs.Ytndgaklcnhoddaa
namespace Go.Proofs.Ytndgaklcnhoddaa
open Go.RowKit Go.Shelf
def lst5 (a b c d e : Int) : Value := .agg #[.int .i64 a, .int .i64 b, .int .i64 c, .int .i64 d, .int .i64 e]
set_option maxHeartbeats 2000000 in
theorem equal_arr (n : Nat) (a b c d e a' b' c' d' e' : Int) (w : World) : (Op.equalIn (n + 2) 73 (lst5 a b c d e) (lst5 a' b' c' d' e')).run Try.prog w = .ok (a == a' && (b == b' && (c == c' && (d == d' && e == e')))) w := by
  have hi : ∀ x y : Int, ∀ w, (Op.equalIn (n + 1) 3 (.int .i64 x) (.int .i64 y)).run Try.prog w = .ok (x == y) w := fun x y w => run_equalIn_int w n 3 .i64 .i64 x y (by kernel_rfl)
  rw [Op.equalIn]
  simp only [lst5, Sem.run_bind, Try.runUnderlying73, Result.andThen_ok]
  have hr : List.range' 0 5 = [0, 1, 2, 3, 4] := rfl
  by_cases e1 : a = a'
  · by_cases e2 : b = b'
    · by_cases e3 : c = c'
      · by_cases e4 : d = d'
        · by_cases e5 : e = e' <;> simp [go_sem, hi, e1, e2, e3, e4, e5, hr]
        · simp [go_sem, hi, e1, e2, e3, e4, hr]
      · simp [go_sem, hi, e1, e2, e3, hr]
    · simp [go_sem, hi, e1, e2, hr]
  · simp [go_sem, hi, e1, hr]
def plc (a b c d e n : Int) : Value := .agg #[.int .i64 a, .int .i64 b, .int .i64 c, .int .i64 d, .int .i64 e, .int .i64 n]
set_option maxHeartbeats 2000000 in
theorem equal_plc (a b c d e m a' b' c' d' e' m' : Int) (w : World) : (Op.equal 115 (plc a b c d e m) (plc a' b' c' d' e' m')).run Try.prog w = .ok ((a == a' && (b == b' && (c == c' && (d == d' && e == e')))) && m == m') w := by
  simp only [Op.equal, Op.maxDepth, plc]
  rw [run_equalIn_struct w 9999 115 _ _ (by kernel_rfl) (by kernel_rfl)]
  have hf : (Try.prog.fieldsOf 115).toList = [⟨"at", 73, 0, false, "", "quinella/turn", 0⟩, ⟨"number", 3, 5, false, "", "quinella/turn", 40⟩] := by kernel_rfl
  rw [hf]
  have hq := fun w => equal_arr 9997 a b c d e a' b' c' d' e' w
  simp only [lst5] at hq
  cases hb : (a == a' && (b == b' && (c == c' && (d == d' && e == e'))))
  · rw [hb] at hq
    simp [go_sem, hq]
  · rw [hb] at hq
    by_cases e1 : m = m' <;> simp [go_sem, hq, e1]
set_option maxHeartbeats 2000000 in
theorem check_arr (b : Bool) (n : Nat) (a1 a2 a3 a4 a5 : Int) (w : World) : (Instr.checkKey b (n + 2) 73 (lst5 a1 a2 a3 a4 a5)).run Try.prog w = .ok () w := by
  have h3 : ∀ x w, (Instr.checkKey b (n + 1) 3 (.int .i64 x)).run Try.prog w = .ok () w := fun x w => by
    rw [Instr.checkKey]; simp [go_sem]
  have hr : List.range' 0 5 = [0, 1, 2, 3, 4] := rfl
  rw [Instr.checkKey]
  simp only [lst5, Sem.run_bind, Try.runUnderlying73, Result.andThen_ok]
  simp [go_sem, h3, hr]
set_option maxHeartbeats 2000000 in
theorem check_plc (b : Bool) (n : Nat) (a1 a2 a3 a4 a5 m : Int) (w : World) : (Instr.checkKey b (n + 3) 115 (plc a1 a2 a3 a4 a5 m)).run Try.prog w = .ok () w := by
  have h3 : ∀ x w, (Instr.checkKey b (n + 2) 3 (.int .i64 x)).run Try.prog w = .ok () w := fun x w => by
    rw [Instr.checkKey]; simp [go_sem]
  have h4 := fun w => check_arr b n a1 a2 a3 a4 a5 w
  simp only [lst5] at h4
  rw [Instr.checkKey]
  simp only [plc, Sem.run_bind, Try.runUnderlying115, Result.andThen_ok]
  simp [go_sem, h3, h4]
/-- the key of a state's number -/
def pk (ks : List Int) (n : Int) : Value := plc (gt (stOf ks n) 0) (gt (stOf ks n) 1) (gt (stOf ks n) 2) (gt (stOf ks n) 3) (gt (stOf ks n) 4) n
def one (_ : Unit) : Value := .int .i64 1
theorem equal_pk (ks : List Int) (a b : Int) (w : World) : (Op.equal 115 (pk ks a) (pk ks b)).run Try.prog w = .ok (decide (a = b)) w := by
  unfold pk
  rw [equal_plc]
  by_cases e : a = b
  · subst e; simp
  · simp [e]
theorem find_pk (ks : List Int) (k : Int) (l : Ents Int Unit) (w : World) : (Instr.findKey 115 (pk ks k) (l.map (encE (pk ks) one))).run Try.prog w = .ok (lookFrom one k l 0) w := by
  have h : ∀ (l : Ents Int Unit) (i : Nat), (Instr.findAsking 115 (pk ks k) (l.map (encE (pk ks) one)) i).run Try.prog w = .ok (lookFrom one k l i) w := by
    intro l
    induction l with
    | nil => intro i; rfl
    | cons e l ih =>
      intro i
      simp only [List.map_cons, Instr.findAsking, lookFrom, encE, Sem.run_bind, equal_pk, Result.andThen_ok]
      by_cases hk : e.1 = k
      · subst hk; simp
      · have : ¬ k = e.1 := fun h => hk h.symm
        simp only [hk, this, decide_false, Bool.false_eq_true, if_false]
        exact ih (i + 1)
  cases l with
  | nil => simp [Instr.findKey, go_sem, Instr.findNow, lookFrom]
  | cons e l =>
    have := h (e :: l) 0
    simp only [Instr.findKey, Sem.run_bind, Try.runUnderlying115, Result.andThen_ok, List.map_cons, Instr.findNow, encE, pk, plc, Instr.sameNow] at this ⊢
    exact this
theorem place_keyed (ks : List Int) : Keyed Try.prog 94 115 3 (pk ks) one where
  und := by kernel_rfl
  chk := fun b k w => check_plc b 9997 _ _ _ _ _ _ w
  find := find_pk ks
  stay := fun k => by
    have : ∀ n : Nat, Instr.sameBits (n + 2) (pk ks k) (pk ks k) = true := fun n => by simp [Instr.sameBits, pk, plc]
    exact this 9998
end Go.Proofs.Ytndgaklcnhoddaa
namespace Go.Proofs.Ytndgaklcnhoddaa
open Go.RowKit Go.Shelf
/-- the states that are left -/
def TMp (W : World) (p : Nat) (ks : List Int) (F : Int → Option Unit) : Prop := ∃ r, W.cell? ⟨p, 4, none⟩ = some (.map (some r)) ∧ MapIs (pk ks) one W r F
theorem TMp.ext {W W' : World} {p : Nat} {ks : List Int} {F : Int → Option Unit} (h : TMp W p ks F) (e : Ext W W') : TMp W' p ks F := by
  obtain ⟨r, h1, h2⟩ := h
  exact ⟨r, cell_ext e h1, h2.ext e⟩
def lookV (o : Option Unit) : Value := .tuple #[.int .i64 (if o.isSome then 1 else 0), .bool o.isSome]
theorem look_run {W : World} {ks : List Int} {r : Nat} {F : Int → Option Unit} (h : MapIs (pk ks) one W r F) (n : Int) :
    (Instr.lookup 94 (.map (some r)) (pk ks n) true).run Try.prog W = .ok (lookV (F n)) W := by
  cases hf : F n with
  | none => exact h.look_none (place_keyed ks) n hf (z := .int .i64 0) fun w => by kernel_rfl
  | some u => exact h.look_ok (place_keyed ks) n hf
set_option maxRecDepth 100000 in
set_option maxHeartbeats 2000000 in
theorem isSafe_any (ks s : List Int) (p : Nat) (F : Int → Option Unit) (w : World) (v : TVal ks) (hst : isSt ks s = true) (ht : THd w p ks) (hm : TMp w p ks F) :
    Calls Try.prog 74 #[.pointer (some ⟨p, 0, none⟩), stV s] w fun e W => e = .returned (.bool (F (numS ks s)).isSome) ∧ Ext w W := by
  obtain ⟨r, k4, hmap⟩ := hm
  have hpk : pk ks (numS ks s) = .agg #[.int .i64 (gt s 0), .int .i64 (gt s 1), .int .i64 (gt s 2), .int .i64 (gt s 3), .int .i64 (gt s 4), .int .i64 (numS ks s)] := by
    unfold pk plc; rw [st_num v.nn hst]
  have hz := World.block_lt_of_cell? _ _ k4
  simp only at hz
  have cn := fun W ht => num_any ks s p W v hst ht
  rw [stV_eq] at cn
  obtain ⟨n, hn⟩ : ∃ n, n = numS ks s := ⟨_, rfl⟩
  obtain ⟨o, ho⟩ : ∃ o, o = F (numS ks s) := ⟨_, rfl⟩
  have hlk : ∀ W, Ext w W → (Instr.lookup 94 (.map (some r)) (pk ks (numS ks s)) true).run Try.prog W = .ok (lookV (F (numS ks s))) W := fun W hE => look_run (hmap.ext hE) _
  rw [← ho, hpk, ← hn] at hlk
  rw [← hn] at cn
  rw [← ho]
  obtain ⟨ob, hob⟩ : ∃ ob, ob = o.isSome := ⟨_, rfl⟩
  obtain ⟨oz, hoz⟩ : ∃ oz : Int, oz = if o.isSome then 1 else 0 := ⟨_, rfl⟩
  unfold lookV at hlk
  rw [← hoz, ← hob] at hlk
  rw [← hob]
  clear hoz hob
  have HT := Lib.hid ht
  have CN := Lib.hid cn
  have HLK := Lib.hid hlk
  rw [stV_eq]
  clear hmap hpk cn hlk ht hn ho hst v
  go_enter Try.func74, Try.ntmps74
  go_upto_region 1 with (fail)
  have hb := Lib.hid (StB.new w s)
  obtain ⟨g0, hg0⟩ := grow_of (show Ext w (w.alloc (.cells #[.int .i64 (gt s 0), .int .i64 (gt s 1), .int .i64 (gt s 2), .int .i64 (gt s 3), .int .i64 (gt s 4)] 73)) by exact (by repeat (first | exact Below.refl _ _ | refine Ext.al ?_ _ | refine Ext.dr ?_ | refine Ext.drN ?_ _ | refine Ext.gr ?_ _ | refine Ext.set ?_ (by simp) _ | (refine Ext.trans' ?_ (by assumption)))))
  replace hb := hb.out
  rw [hg0] at hb ⊢
  have k4' := cell_ext (grow_below w g0) k4
  have HE0 := Lib.hid (show Ext w (grow w g0) from grow_below w g0)
  clear hg0
  have c0q := (hb).c 0 (by omega)
  have c1q := (hb).c 1 (by omega)
  have c2q := (hb).c 2 (by omega)
  have c3q := (hb).c 3 (by omega)
  have c4q := (hb).c 4 (by omega)
  have cfq := (hb).free
  have czq := (hb).lt
  clear hb
  obtain ⟨Y, hY⟩ : ∃ Y, Y = grow w g0 := ⟨_, rfl⟩
  rw [← hY] at c0q c1q c2q c3q c4q cfq czq k4' HE0 ⊢
  have HT2 := Lib.hid (HT.out.ext HE0.out)
  have hpY : p < Y.heap.size := by omega
  clear hY HT
  refine wp_region_rove (Y.heap.size) (Nat.le_refl _)
    [sqV (.pointer (some ⟨p, 0, none⟩)),
     sqV (.pointer (some ⟨p, 0, none⟩)),
     sqV (.pointer (some ⟨p, 4, none⟩)),
     sqV (.map (some r)),
     sqV (.agg #[.int .i64 (gt s 0), .int .i64 (gt s 1), .int .i64 (gt s 2), .int .i64 (gt s 3), .int .i64 (gt s 4)]),
     sqV (.pointer (some ⟨p, 0, none⟩)),
     sqV (.agg #[.int .i64 (gt s 0), .int .i64 (gt s 1), .int .i64 (gt s 2), .int .i64 (gt s 3), .int .i64 (gt s 4)]),
     sqV (.int .i64 n),
     sqV (.agg #[.int .i64 (gt s 0), .int .i64 (gt s 1), .int .i64 (gt s 2), .int .i64 (gt s 3), .int .i64 (gt s 4), .int .i64 n]),
     sqV (.tuple #[.int .i64 oz, .bool ob]),
     sqV (.tuple #[.int .i64 oz, .bool ob]),
     sqV (.int .i64 oz),
     sqV (.bool ob),
     sqV (.int .i64 oz),
     sqV (.bool ob)]
    [true, true, true, true, true, true, true, true, true, true, true, true, true, true, true] [false, false, false, false, false, false, false, false, false, false, false, false, false, false, false] [true, true, true, true, true, true, true, true, true, true, true, true, true, true, true] [true, true, true, true, true, true, true, true, true, true, true, true, true, true, true]
    (by kernel_rfl) (by kernel_rfl) (by decide +kernel) (by decide +kernel) (by decide +kernel) rfl ⟨rfl, rfl⟩ ⟨?s0, ?s1, ?s2, ?s3, ?s4, ?s5, ?s6, ?s7, ?s8, ?s9, ?s10, ?s11, ?s12, ?s13, ?s14, trivial⟩ [some 8, some 9, some 10, some 11, some 12, some 13, some 14, some 15, some 16, some 17, some 7, some 18, some 19, some 5, some 6] rfl rfl ?send
  case s0 =>
    intro val ρ W hE hz hd hA hx
    have o0 : ρ (.tmp 0) = .pointer (some ⟨p, 0, none⟩) := hA.old 0 (by decide)
    clear hd
    exact runq_val (W' := W) (by simp [execOp, o0, go_sem]) (Below.refl _ _) rfl
  case s1 =>
    intro val ρ W hE hz hd hA hx
    have d0 : ρ (.tmp 8) = .pointer (some ⟨p, 0, none⟩) := (hA.dep 0 (by decide) 8 rfl).trans (hd 0 (by decide))
    clear hd
    exact runq_val (W' := W) (by simp [execOp, d0, go_sem]) (Below.refl _ _) rfl
  case s2 =>
    intro val ρ W hE hz hd hA hx
    have d1 : ρ (.tmp 9) = .pointer (some ⟨p, 0, none⟩) := (hA.dep 1 (by decide) 9 rfl).trans (hd 1 (by decide))
    clear hd
    exact runq_val (W' := W) (by simp [execOp, d1, go_sem]) (Below.refl _ _) rfl
  case s3 =>
    intro val ρ W hE hz hd hA hx
    have d2 : ρ (.tmp 10) = .pointer (some ⟨p, 4, none⟩) := (hA.dep 2 (by decide) 10 rfl).trans (hd 2 (by decide))
    have f_k4' := cell_below hE (by simp only; omega) k4'
    clear hd
    exact runq_val (W' := W) (by simp [execOp, d2, f_k4', go_sem]) (Below.refl _ _) rfl
  case s4 =>
    intro val ρ W hE hz hd hA hx
    have o0 : ρ (.tmp 3) = .pointer (some ⟨w.heap.size, 0, none⟩) := hA.old 3 (by decide)
    have f_c0q := cell_below hE (by simp only; omega) c0q
    have f_c1q := cell_below hE (by simp only; omega) c1q
    have f_c2q := cell_below hE (by simp only; omega) c2q
    have f_c3q := cell_below hE (by simp only; omega) c3q
    have f_c4q := cell_below hE (by simp only; omega) c4q
    clear hd
    exact runq_val (W' := W) (by simp [execOp, o0, f_c0q, f_c1q, f_c2q, f_c3q, f_c4q, go_sem]) (Below.refl _ _) rfl
  case s5 =>
    intro val ρ W hE hz hd hA hx
    have o0 : ρ (.tmp 0) = .pointer (some ⟨p, 0, none⟩) := hA.old 0 (by decide)
    clear hd
    exact runq_val (W' := W) (by simp [execOp, o0, go_sem]) (Below.refl _ _) rfl
  case s6 =>
    intro val ρ W hE hz hd hA hx
    have o0 : ρ (.tmp 3) = .pointer (some ⟨w.heap.size, 0, none⟩) := hA.old 3 (by decide)
    have f_c0q := cell_below hE (by simp only; omega) c0q
    have f_c1q := cell_below hE (by simp only; omega) c1q
    have f_c2q := cell_below hE (by simp only; omega) c2q
    have f_c3q := cell_below hE (by simp only; omega) c3q
    have f_c4q := cell_below hE (by simp only; omega) c4q
    clear hd
    exact runq_val (W' := W) (by simp [execOp, o0, f_c0q, f_c1q, f_c2q, f_c3q, f_c4q, go_sem]) (Below.refl _ _) rfl
  case s7 =>
    intro val ρ W hE hz hd hA hx
    have d5 : ρ (.tmp 13) = .pointer (some ⟨p, 0, none⟩) := (hA.dep 5 (by decide) 13 rfl).trans (hd 5 (by decide))
    have d6 : ρ (.tmp 14) = .agg #[.int .i64 (gt s 0), .int .i64 (gt s 1), .int .i64 (gt s 2), .int .i64 (gt s 3), .int .i64 (gt s 4)] := (hA.dep 6 (by decide) 14 rfl).trans (hd 6 (by decide))
    clear hd
    refine runq_call 82 _ _ rfl #[.pointer (some ⟨p, 0, none⟩), .agg #[.int .i64 (gt s 0), .int .i64 (gt s 1), .int .i64 (gt s 2), .int .i64 (gt s 3), .int .i64 (gt s 4)]] (hA.func _) (by simp [d5, d6]) (fun args W => Try.call82 args W) ((CN.out W (HT2.out.ext hE)).mono ?_)
    rintro e w' ⟨rfl, hb⟩
    exact ⟨_, rfl, hb, rfl⟩
  case s8 =>
    intro val ρ W hE hz hd hA hx
    have d4 : ρ (.tmp 12) = .agg #[.int .i64 (gt s 0), .int .i64 (gt s 1), .int .i64 (gt s 2), .int .i64 (gt s 3), .int .i64 (gt s 4)] := (hA.dep 4 (by decide) 12 rfl).trans (hd 4 (by decide))
    have d7 : ρ (.tmp 15) = .int .i64 n := (hA.dep 7 (by decide) 15 rfl).trans (hd 7 (by decide))
    clear hd
    exact runq_val (W' := W) (by simp [execOp, d4, d7, go_sem]) (Below.refl _ _) rfl
  case s10 =>
    intro val ρ W hE hz hd hA hx
    have d9 : ρ (.tmp 17) = .tuple #[.int .i64 oz, .bool ob] := (hA.dep 9 (by decide) 17 rfl).trans (hd 9 (by decide))
    clear hd
    exact runq_val (W' := W) (by simp [execOp, d9, go_sem]) (Below.refl _ _) rfl
  case s11 =>
    intro val ρ W hE hz hd hA hx
    have d10 : ρ (.tmp 7) = .tuple #[.int .i64 oz, .bool ob] := (hA.dep 10 (by decide) 7 rfl).trans (hd 10 (by decide))
    clear hd
    exact runq_val (W' := W) (by simp [execOp, d10, go_sem]) (Below.refl _ _) rfl
  case s12 =>
    intro val ρ W hE hz hd hA hx
    have d10 : ρ (.tmp 7) = .tuple #[.int .i64 oz, .bool ob] := (hA.dep 10 (by decide) 7 rfl).trans (hd 10 (by decide))
    clear hd
    exact runq_val (W' := W) (by simp [execOp, d10, go_sem]) (Below.refl _ _) rfl
  case s13 =>
    intro val ρ W hE hz hd hA hx
    have d11 : ρ (.tmp 18) = .int .i64 oz := (hA.dep 11 (by decide) 18 rfl).trans (hd 11 (by decide))
    clear hd
    exact runq_val (W' := W) (by simp [execOp, d11, go_sem]) (Below.refl _ _) rfl
  case s14 =>
    intro val ρ W hE hz hd hA hx
    have d12 : ρ (.tmp 19) = .bool ob := (hA.dep 12 (by decide) 19 rfl).trans (hd 12 (by decide))
    clear hd
    exact runq_val (W' := W) (by simp [execOp, d12, go_sem]) (Below.refl _ _) rfl
  case s9 =>
    intro val ρ W hE hz hd hA hx
    have d3 : ρ (.tmp 11) = .map (some r) := (hA.dep 3 (by decide) 11 rfl).trans (hd 3 (by decide))
    have d8 : ρ (.tmp 16) = .agg #[.int .i64 (gt s 0), .int .i64 (gt s 1), .int .i64 (gt s 2), .int .i64 (gt s 3), .int .i64 (gt s 4), .int .i64 n] := (hA.dep 8 (by decide) 16 rfl).trans (hd 8 (by decide))
    have hq := HLK.out W (HE0.out.trans' hE)
    clear hd
    exact runq_val (W' := W) (by simp [execOp, d3, d8, go_sem, hq]) (Below.refl _ _) rfl
  case send =>
    intro val WW hE hzz hv
    obtain ⟨r0, r1, r2, r3, r4, r5, r6, r7, r8, r9, r10, r11, r12, r13, r14, -⟩ := hv
    have q0 : val 0 = .pointer (some ⟨p, 0, none⟩) := r0
    have q1 : val 1 = .pointer (some ⟨p, 0, none⟩) := r1
    have q2 : val 2 = .pointer (some ⟨p, 4, none⟩) := r2
    have q3 : val 3 = .map (some r) := r3
    have q4 : val 4 = .agg #[.int .i64 (gt s 0), .int .i64 (gt s 1), .int .i64 (gt s 2), .int .i64 (gt s 3), .int .i64 (gt s 4)] := r4
    have q5 : val 5 = .pointer (some ⟨p, 0, none⟩) := r5
    have q6 : val 6 = .agg #[.int .i64 (gt s 0), .int .i64 (gt s 1), .int .i64 (gt s 2), .int .i64 (gt s 3), .int .i64 (gt s 4)] := r6
    have q7 : val 7 = .int .i64 n := r7
    have q8 : val 8 = .agg #[.int .i64 (gt s 0), .int .i64 (gt s 1), .int .i64 (gt s 2), .int .i64 (gt s 3), .int .i64 (gt s 4), .int .i64 n] := r8
    have q9 : val 9 = .tuple #[.int .i64 oz, .bool ob] := r9
    have q10 : val 10 = .tuple #[.int .i64 oz, .bool ob] := r10
    have q11 : val 11 = .int .i64 oz := r11
    have q12 : val 12 = .bool ob := r12
    have q13 : val 13 = .int .i64 oz := r13
    have q14 : val 14 = .bool ob := r14
    clear r0 r1 r2 r3 r4 r5 r6 r7 r8 r9 r10 r11 r12 r13 r14
    obtain ⟨g99, rfl⟩ := grow_of hE
    clear hE hzz
    simp only [putD, q0, q1, q2, q3, q4, q5, q6, q7, q8, q9, q10, q11, q12, q13, q14]
    go_frame
    clear q0 q1 q2 q3 q4 q5 q6 q7 q8 q9 q10 q11 q12 q13 q14
    go_wp2_with fail
    go_ret
    exact ⟨rfl, HE0.out.trans' (grow_below Y g99)⟩
end Go.Proofs.Ytndgaklcnhoddaa
namespace Go.Proofs.Ytndgaklcnhoddaa
open Go.RowKit Go.Shelf

attribute [local go_sem] Oper.semAt_some

set_option maxRecDepth 100000 in
set_option maxHeartbeats 1000000 in
theorem visits_any (p : Nat) (s : List Int) (w : World) :
    Calls Try.prog 98 #[.pointer (some ⟨p, 0, none⟩), stV s] w fun e w' => e = .returned (.func (.func 109) #[] #[.pointer (some ⟨w.heap.size, 0, none⟩), .pointer (some ⟨w.heap.size + 1, 0, none⟩)]) ∧
      Ext w w' ∧ w'.cell? ⟨w.heap.size, 0, none⟩ = some (.pointer (some ⟨p, 0, none⟩)) ∧ StB w' (w.heap.size + 1) s ∧ w'.heap.size = w.heap.size + 2 := by
  rw [stV_eq]
  go_enter Try.func98, Try.ntmps98
  go_wp2
  go_ret
  refine ⟨rfl, by exact (by repeat (first | exact Below.refl _ _ | refine Ext.al ?_ _ | refine Ext.dr ?_ | refine Ext.drN ?_ _ | refine Ext.gr ?_ _ | refine Ext.set ?_ (by simp) _ | (refine Ext.trans' ?_ (by assumption)))), by simp [go_sem], ?_, by simp⟩
  have := StB.new (w.alloc (.cells #[.pointer (some ⟨p, 0, none⟩)] 83)) s
  rwa [World.size_alloc] at this

theorem StB.kept {S : Nat → Prop} {W W' : World} {b : Nat} {s : List Int} (h : StB W b s) (k : Kept S W W') (hs : S b) : StB W' b s := (k.same b (Array.getElem?_eq_some_iff.1 h).1 hs).trans h

set_option maxRecDepth 100000 in
set_option maxHeartbeats 2000000 in
theorem visits_iter (ks s : List Int) (n5 : ks.length ≤ 5) (R : Nat → Prop) (bx bs p : Nat) (w0 : World) (_ : ∀ k, R k → k < w0.heap.size) (rbs : R bs)
    (hbx : w0.cell? ⟨bx, 0, none⟩ = some (.pointer (some ⟨p, 0, none⟩))) (ht : THd w0 p ks) (hbs : StB w0 bs s) :
    Iter Try.prog 109 #[.pointer (some ⟨bx, 0, none⟩), .pointer (some ⟨bs, 0, none⟩)] (fun x : Nat => #[.int .i64 (x : Int), stV (visit s x)]) R (fun xs => xs = List.range ks.length) (fun _ => True) (fun pre x => pre = List.range x ∧ x < ks.length) w0 := by
  intro n l J Jx W hW hJ hJx hY h0
  have hbx1 := cell_ext hW hbx
  obtain ⟨sa, cap, ht1, -⟩ := ht.ext hW
  have hbs1 := hbs.ext hW
  clear hbx ht hbs
  have hs0 := hW.size
  refine callsIn_of_wp Try.func109 rfl trivial ?_ rfl
  simp only [Try.ntmps109, List.size_toArray, List.length_cons, List.length_nil, Nat.reduceAdd, Nat.reduceSub, Array.replicate_succ, Array.replicate_zero, List.push_toArray, List.append_toArray, List.nil_append, List.cons_append]
  have HJ := Lib.hid hJ
  have HY := Lib.hid hY
  have HB := Lib.hid hbs1
  have HW := Lib.hid hW
  clear hJ hY hW hbs1
  gi_wp2
  gi_loopw [11] (fun i wr => ∃ (k : Nat) (O : Nat → Prop), k ≤ ks.length ∧ i = .int .i64 k ∧ J O (List.range k) wr ∧ (∀ g, O g → w0.heap.size ≤ g) ∧ Kept R W wr)
    (fun i wr => ks.length - (intOf i).toNat)
  case atStart => exact ⟨0, fun _ => False, Nat.zero_le _, rfl, h0, fun _ h => h.elim, Kept.refl _ _⟩
  case round =>
    obtain ⟨k, O, hk, rfl, hj, hO, hkp⟩ := hrel
    have hb := HB.out.kept hkp rbs
    by_cases hlt : k < ks.length
    · have hki : (k : Int) < (ks.length : Int) := by omega
      have HJ1 := Lib.hid hj
      have HO := Lib.hid hO
      have HK := Lib.hid hkp
      have hf := hb.free
      have c0 := hb.c 0 (by omega)
      have c1 := hb.c 1 (by omega)
      have c2 := hb.c 2 (by omega)
      have c3 := hb.c 3 (by omega)
      have c4 := hb.c 4 (by omega)
      clear hj hO hkp hb
      gi_wp2_with fail
      refine ⟨trivial, fun h => (by simp [Fence.wide] at h), (callsIn_wide.2 (visited_any s k _ (by omega))).mono ?_⟩
      rintro e W3 ⟨rfl, hE⟩
      have HJ3 := Lib.hid ((HJ.out _).ext HJ1.out hE)
      have HK3 := Lib.hid (HK.out.trans (.of_below hE))
      clear hE c0 c1 c2 c3 c4 hf
      obtain ⟨fn, tmps, assign, body, hy, hR⟩ := HY.out O _ k W3 HJ3.out ⟨rfl, hlt⟩
      gi_wp2_with fail
      refine ⟨fun h => (by simp [Fence.wide] at h), hR.mono ?_⟩
      clear hy hR
      rintro e W4 (⟨rfl, hj4, hk4⟩ | ⟨rfl, hj4⟩)
      · have HJ4 := Lib.hid hj4
        have HK5 := Lib.hid (HK3.out.trans (hk4.mono fun _ _ h => .inl h))
        clear hj4 hk4
        gi_wp2
        go_roundw
        case rel => exact ⟨k + 1, O, by omega, by go_num, by rw [List.range_succ]; exact HJ4.out, HO.out, HK5.out⟩
        case measure => simp [intOf]; omega
      · gi_wp2
        refine bodyPost_ret (results_none rfl _ _ _) rfl ?_
        exact ⟨⟨_, rfl⟩, .inr ⟨O, _, trivial, hj4⟩⟩
    · gi_wp2
      go_end0
      have e : k = ks.length := by omega
      subst e
      exact ⟨⟨_, rfl⟩, .inl ⟨O, _, rfl, hj⟩⟩
end Go.Proofs.Ytndgaklcnhoddaa
namespace Go.Proofs.Ytndgaklcnhoddaa
open Go.RowKit Go.Shelf
theorem wpIn_append {F : Fence} {n : Nat} {P : Program} {w : World} {ops : Array Oper} {rest : List Oper} {o : Oper} {a : Act} {Q : Exit → Act → World → Prop} (hgd : o.guard = none) (s x : Operand) {t ty : TypeId}
    (ho : o.op = .call { callee := .builtin .append, args := #[s, x], argTypes := #[t, t] }) (hty : o.type = ty) {v xv v' : Value} {w' : World} (hs : a.eval s = v) (hx : a.eval x = xv) (hrun : (Builtin.append_ #[t, t] ty #[v, xv]).run P w = .ok v' w')
    (h : wpListIn F n P ops Q rest (a.put o.dst v') w') : wpListIn F n P ops Q (o :: rest) a w :=
  wpListIn_plain hgd fun K hK => by
    unfold Oper.wpIn
    refine ⟨?_, ?_⟩
    · simp [Oper.about, ho, resolve, Target.leads, Sem.run_pure]
    · rw [Oper.semAt_plain F _ _ (by rw [ho]; intro c hc'; cases hc')]
      simp [execOp, ho, resolve, invoke, builtin, hs, hx, hty, hrun, Result.andThen]
      exact hK _ _ h
/-- where the slice lies that append has left: where it lay, or in a new block -/
theorem app_at {w : World} {t e : TypeId} {sz : Nat} (el : El t e sz) (ty : TypeId) (B : Nat) {v : Value} {rows : List (List Value)} (hown : Owns w B e sz v rows) (b off c : Nat) (news : List (List Value))
    (hr : ∀ r ∈ news, r.length = sz) (hs : RowsAt w sz b off news) (h1 : ∀ r ∈ news, ∀ u ∈ r, u.oneCell' = true) (hn : rows.length + news.length ≤ 1000000) (hB : B ≤ w.heap.size) :
    ∃ v' w', (Builtin.append_ #[t, t] ty #[v, .slice (some ⟨b, off, none⟩) news.length c]).run Try.prog w = .ok v' w' ∧ Owns w' B e sz v' (rows ++ news) ∧ Kept (fun k => some k ≠ v.ownBlock) w w' ∧ (∀ g, v'.ownBlock = some g → v.ownBlock = some g ∨ w.heap.size ≤ g) := by
  obtain ⟨i, z, hi, hz, hsi, hby, hzs⟩ := el.info
  have hfl : ∀ j u, news.flatten[j]? = some u → w.cell? ((⟨b, off, none⟩ : Addr).add j) = some u := fun j u hj => by rw [addr_add]; exact rows_flat hr hs j u hj
  have h1f : ∀ u ∈ news.flatten, u.oneCell' = true := fun u hu => by obtain ⟨r, hr1, hr2⟩ := List.mem_flatten.1 hu; exact h1 r hr1 u hr2
  have hby2 : (rows.length + news.length) * i.bytes ≤ 140737488355328 := by have := Nat.mul_le_mul hn hby; omega
  have hrr : ∀ r ∈ rows ++ news, r.length = sz := fun r hr' => by
    rcases List.mem_append.1 hr' with h | h
    · exact hown.2 r h
    · exact hr r h
  have hkept : ∀ {w' : World} {x : Option Nat}, w.grownBy w' x → (x = none ∨ x = v.ownBlock) → Kept (fun k => some k ≠ v.ownBlock) w w' := fun hg hx =>
    (Kept.refl _ w).grown hg fun k e _ hk => by
      rcases hx with hx | hx
      · rw [hx] at e; cases e
      · rw [hx] at e; exact hk e.symm
  rcases hown.1.2 with ⟨rfl, hn0⟩ | ⟨g, cap, cur, rfl, hb, hg, hnc, hm, hsz, ht⟩
  · have h0 : rows = [] := List.eq_nil_of_length_eq_zero hn0
    subst h0
    obtain ⟨v', w', hrun, ho, hg, _⟩ := run_append_own (P := Try.prog) w w.heap.size t ty e i z sz i.bytes el.und hi hz hsi rfl hzs el.pos (.slice none 0 0) 0 [] (World.ownsRow_nil w _ e sz) ⟨b, off, none⟩ news.length c news.flatten (flatten_len hr)
      hfl h1f (by simp [maxLen] at *; omega) (by simpa using hby2) (Nat.le_refl _)
    have ho' : Owns w' w.heap.size e sz v' ([] ++ news) := ⟨by simpa using ho, hrr⟩
    exact ⟨v', w', hrun, ho'.base hB, hkept hg (.inr rfl), fun k hk => .inr (ho'.1.lt k hk).1⟩
  · by_cases hroom : rows.length + news.length ≤ cap
    · obtain ⟨w', hrun, ho, hg2⟩ := run_append_fits (P := Try.prog) w B t ty e i sz el.und hi hsi g rows.length cap rows.flatten hown.1 ⟨b, off, none⟩ news.length c news.flatten (flatten_len hr) hfl h1f hroom
      exact ⟨_, w', hrun, ⟨by simpa using ho, hrr⟩, hkept hg2 (.inr rfl), fun k hk => .inl hk⟩
    · obtain ⟨v', w', hrun, ho, hg2⟩ := run_append_arg_grows (P := Try.prog) w t ty e i z sz i.bytes el.und hi hz hsi rfl hzs el.pos ⟨g, 0, none⟩ rows.length cap rows.flatten (flatten_len hown.2)
        (fun j u hj => hown.1.cells rfl j u hj) ⟨b, off, none⟩ news.length c news.flatten (flatten_len hr) hfl (by omega) (by simp [maxLen]; omega) hby2
      have ho' : Owns w' w.heap.size e sz v' (rows ++ news) := ⟨by simpa using ho, hrr⟩
      exact ⟨v', w', hrun, ho'.base hB, hkept hg2 (.inl rfl), fun k hk => .inr (ho'.1.lt k hk).1⟩
/-- onto a slice that a call has made itself -/
theorem wpOwnIn {F : Fence} {n : Nat} {w : World} {ops : Array Oper} {rest : List Oper} {o : Oper} {a : Act} {Q : Exit → Act → World → Prop} (hgd : o.guard = none) (s x : Operand) {t e : TypeId} {sz : Nat} (el : El t e sz)
    (ho : o.op = .call { callee := .builtin .append, args := #[s, x], argTypes := #[t, t] }) (B : Nat) {v : Value} {rows : List (List Value)} (hs : a.eval s = v) (hown : Owns w B e sz v rows)
    (b off c : Nat) (news : List (List Value)) (hx : a.eval x = .slice (some ⟨b, off, none⟩) news.length c) (hr : ∀ r ∈ news, r.length = sz) (hc : RowsAt w sz b off news) (h1 : ∀ r ∈ news, ∀ u ∈ r, u.oneCell' = true)
    (hn : rows.length + news.length ≤ 1000000) (hB : B ≤ w.heap.size)
    (h : ∀ v' w', Owns w' B e sz v' (rows ++ news) → Kept (fun k => some k ≠ v.ownBlock) w w' → (∀ g, v'.ownBlock = some g → v.ownBlock = some g ∨ w.heap.size ≤ g) → wpListIn F n Try.prog ops Q rest (a.put o.dst v') w') : wpListIn F n Try.prog ops Q (o :: rest) a w := by
  obtain ⟨v', w', hrun, h2, h3, h4⟩ := app_at el o.type B hown b off c news hr hc h1 hn hB
  exact wpIn_append hgd s x ho rfl hs hx hrun (h v' w' h2 h3 h4)
/-- append onto a slice without room: a new one -/
theorem app_full {w : World} {t e : TypeId} {sz : Nat} (el : El t e sz) (ty : TypeId) (ao : Option Addr) (n cap : Nat) {rows : List (List Value)} (hl : n = rows.length) (hrows : ∀ r ∈ rows, r.length = sz) (hold : (ao = none ∧ rows = [] ∧ cap = 0) ∨ ∃ b off, ao = some ⟨b, off, none⟩ ∧ RowsAt w sz b off rows)
    (b off c : Nat) (news : List (List Value)) (hr : ∀ r ∈ news, r.length = sz) (hs : RowsAt w sz b off news) (h1 : ∀ r ∈ news, ∀ u ∈ r, u.oneCell' = true) (hfull : cap < n + news.length) (hn : rows.length + news.length ≤ 1000000) :
    ∃ v' w', (Builtin.append_ #[t, t] ty #[.slice ao n cap, .slice (some ⟨b, off, none⟩) news.length c]).run Try.prog w = .ok v' w' ∧ Owns w' w.heap.size e sz v' (rows ++ news) ∧ Ext w w' := by
  subst hl
  obtain ⟨i, z, hi, hz, hsi, hby, hzs⟩ := el.info
  have hfl : ∀ j u, news.flatten[j]? = some u → w.cell? ((⟨b, off, none⟩ : Addr).add j) = some u := fun j u hj => by rw [addr_add]; exact rows_flat hr hs j u hj
  have h1f : ∀ u ∈ news.flatten, u.oneCell' = true := fun u hu => by obtain ⟨r, hr1, hr2⟩ := List.mem_flatten.1 hu; exact h1 r hr1 u hr2
  have hby2 : (rows.length + news.length) * i.bytes ≤ 140737488355328 := by have := Nat.mul_le_mul hn hby; omega
  have hrr : ∀ r ∈ rows ++ news, r.length = sz := fun r hr' => by
    rcases List.mem_append.1 hr' with h | h
    · exact hrows r h
    · exact hr r h
  rcases hold with ⟨rfl, rfl, rfl⟩ | ⟨g, o, rfl, hc⟩
  · obtain ⟨v', w', hrun, ho, hg, _⟩ := run_append_own (P := Try.prog) w w.heap.size t ty e i z sz i.bytes el.und hi hz hsi rfl hzs el.pos (.slice none 0 0) 0 [] (World.ownsRow_nil w _ e sz) ⟨b, off, none⟩ news.length c news.flatten (flatten_len hr)
      hfl h1f (by simp [maxLen] at *; omega) (by simpa using hby2) (Nat.le_refl _)
    exact ⟨v', w', hrun, ⟨by simpa using ho, hrr⟩, (Below.refl _ w).grown hg (Nat.le_refl _) fun k hk => by cases hk⟩
  · obtain ⟨v', w', hrun, ho, hg2⟩ := run_append_arg_grows (P := Try.prog) w t ty e i z sz i.bytes el.und hi hz hsi rfl hzs el.pos ⟨g, o, none⟩ rows.length cap rows.flatten (flatten_len hrows)
      (fun j u hj => by rw [addr_add]; exact rows_flat hrows hc j u hj) ⟨b, off, none⟩ news.length c news.flatten (flatten_len hr) hfl (by omega) (by simp [maxLen]; omega) hby2
    exact ⟨v', w', hrun, ⟨by simpa using ho, hrr⟩, (Below.refl _ w).grown hg2 (Nat.le_refl _) fun k hk => by cases hk⟩
/-- rows that were laid just now -/
theorem newRows (w : World) (rows : List (List Value)) (arr : Array Value) (T : TypeId) (b sz : Nat) (hb : b = w.heap.size) (hr : ∀ r ∈ rows, r.length = sz) (ha : arr.toList = rows.flatten) : RowsAt (w.alloc (.cells arr T)) sz b 0 rows := by
  subst hb
  refine flat_rows hr fun j u hj => ?_
  have hg : (w.alloc (.cells arr T)).heap[w.heap.size]? = some (.cells arr T (0, 0)) := by
    show (w.heap.push _)[w.heap.size]? = _
    rw [Array.getElem?_push, if_pos rfl]
  rw [cell_of_row _ _ _ _ _ _ hg, Nat.zero_add, ← Array.getElem?_toList, ha]
  exact hj
end Go.Proofs.Ytndgaklcnhoddaa
namespace Go.Proofs.Ytndgaklcnhoddaa
open Go.RowKit Go.Shelf

attribute [local go_sem] Oper.semAt_some

section
variable (P : Program) (w : World) (a : Addr) (m : Mode)
theorem stNilF : (store a .nilFunc m).run P w = stored P w a .nilFunc m := run_store P w a _ m rfl
theorem stFunc (fn : Fn) (first captured : Array Value) : (store a (.func fn first captured) m).run P w = stored P w a (.func fn first captured) m := run_store P w a _ m rfl
end
attribute [local go_sem] stNilF stFunc
/-- the windows whose visit leads to a state of F, if some pull -/
def leadsF (ks : List Int) (F : Int → Option Unit) (pl : Nat → Bool) (s : List Int) : List Int :=
  if fullP pl ks s then [] else ((List.range ks.length).filter fun w => (F (numS ks (visit (upP pl s) w))).isSome).map fun (w : Nat) => (w : Int)
/-- those among some windows -/
def leadsTo (ks : List Int) (F : Int → Option Unit) (x : List Int) (l : List Nat) : List Int := (l.filter fun w => (F (numS ks (visit x w))).isSome).map fun (w : Nat) => (w : Int)
theorem leadsTo_snoc (ks : List Int) (F : Int → Option Unit) (x : List Int) (l : List Nat) (w : Nat) : leadsTo ks F x (l ++ [w]) = leadsTo ks F x l ++ (if (F (numS ks (visit x w))).isSome then [(w : Int)] else []) := by
  unfold leadsTo
  rw [List.filter_append, List.map_append]
  congr 1
  by_cases h : (F (numS ks (visit x w))).isSome = true <;> simp [h]
theorem Owns.notOwn {w : World} {B : Nat} {e : TypeId} {sz : Nat} {v : Value} {rows : List (List Value)} (h : Owns w B e sz v rows) : ∀ g, v.ownBlock = some g → B ≤ g ∧ g < w.heap.size := h.1.lt
theorem Owns.putOther {w : World} {B : Nat} {e : TypeId} {sz : Nat} {v : Value} {rows : List (List Value)} (h : Owns w B e sz v rows) {D : Nat} {x : Option (List Deferred)} (hD : w.heap[D]? = some (.deferred x)) (o : Obj) : Owns (w.putObj D o) B e sz v rows := by
  refine ⟨⟨h.1.1, ?_⟩, h.2⟩
  rcases h.1.2 with a | ⟨g, cap, cur, hv, hb, hg, hr⟩
  · exact .inl a
  · refine .inr ⟨g, cap, cur, hv, hb, (World.putObj_heap_other fun e => ?_).trans hg, hr⟩
    subst e
    rw [hD] at hg; cases hg
/-- what leads has found so far: in the box bO a slice that it owns, in no block of the iterator's -/
def Found (bO B : Nat) (rows : List (List Value)) (O : Nat → Prop) (W : World) : Prop :=
  ∃ v, W.heap[bO]? = some (.cells #[v] 22 (0, 0)) ∧ Owns W B 3 1 v rows ∧ ∀ g, v.ownBlock = some g → ¬ O g
theorem Found.kept {bO B : Nat} {rows : List (List Value)} {O O' : Nat → Prop} {A A' : World} {S : Nat → Prop} (h : Found bO B rows O A) (k : Kept S A A') (h1 : S bO) (h2 : ∀ g, B ≤ g → ¬ O g → S g) (h3 : ∀ g, O' g → O g ∨ A.heap.size ≤ g) : Found bO B rows O' A' := by
  obtain ⟨v, a, b, c⟩ := h
  refine ⟨v, (k.same bO (Array.getElem?_eq_some_iff.1 a).1 h1).trans a, ?_, fun g hg ho => ?_⟩
  · refine ⟨⟨b.1.1, ?_⟩, b.2⟩
    rcases b.1.2 with q | ⟨g, cap, cur, hv, hb, hg, hr⟩
    · exact .inl q
    · refine .inr ⟨g, cap, cur, hv, hb, (k.same g (Array.getElem?_eq_some_iff.1 hg).1 (h2 g hb (c g ?_))).trans hg, hr⟩
      subst hv; rfl
  · rcases h3 g ho with q | q
    · exact c g hg q
    · have := (b.notOwn g hg).2; omega

set_option maxRecDepth 100000 in
set_option maxHeartbeats 4000000 in
theorem leads_in (ks s : List Int) (p : Nat) (F : Int → Option Unit) (fv : Value) (pl : Nat → Bool) (w : World) (v : TVal ks) (hst : isSt ks s = true) (ht : THd w p ks) (hm : TMp w p ks F) (hp : Pulls w fv pl) :
    CallsIn Fence.wide 9 Try.prog 86 #[.pointer (some ⟨p, 0, none⟩), stV s, fv] w fun e W => ∃ r, e = .returned r ∧ Ext w W ∧ IsInts W .i64 r (leadsF ks F pl s) := by
  obtain ⟨f, cs, hfv, hcall, hf0⟩ := hp.ex
  obtain ⟨sa, cap, hk0, hs⟩ := ht
  obtain ⟨_, _, e, h1, h2, -⟩ := hs.spec
  cases e
  have n5 := v.n5
  have hl5 := isSt_len hst
  have hgb : ∀ i, i < ks.length → 0 ≤ gt s i ∧ gt s i ≤ 1000 := fun i hi => by
    have h1 := isSt_gt hst i hi
    have h2 := v.at_ i hi
    unfold gt at h1 ⊢
    omega
  have hcp := fun W hs hp => pulled_any s ks (.slice sa ks.length cap) fv pl W hs hp hl5 n5 hgb
  have hXs : ∃ X, ∃ ok : Bool, (if fullP pl ks s then Value.tuple #[stV [], .bool false] else .tuple #[stV (upP pl s), .bool true]) = .tuple #[stV X, .bool ok] ∧ (ok = true → fullP pl ks s = false ∧ X = upP pl s) ∧ (ok = false → fullP pl ks s = true) := by
    cases hfu : fullP pl ks s
    · exact ⟨upP pl s, true, rfl, fun _ => ⟨rfl, rfl⟩, fun (h : true = false) => (by cases h)⟩
    · exact ⟨[], false, rfl, fun (h : false = true) => (by cases h), fun _ => rfl⟩
  obtain ⟨X, ok, hX, hok1, hok0⟩ := hXs
  unfold RetPull at hcp
  rw [hX, stV_eq, stV_eq] at hcp
  have CP := Lib.hid hcp
  have HS := Lib.hid hs
  have HM := Lib.hid hm
  have HP := Lib.hid hp
  have V := Lib.hid v
  have HOK1 := Lib.hid hok1
  have HOK0 := Lib.hid hok0
  have HST := Lib.hid hst
  clear hs hm hp v hcp hX hok1 hok0 hgb hf0 hcall hst
  rw [stV_eq]
  refine callsIn_of_wp_marks Try.func86 rfl trivial ?_ rfl
  simp only [Try.ntmps86, List.size_toArray, List.length_cons, List.length_nil, Nat.reduceAdd, Nat.reduceSub, Array.replicate_succ, Array.replicate_zero, List.push_toArray, List.append_toArray, List.nil_append, List.cons_append]
  gi_wp2
  have hb := StB.new w s
  obtain ⟨Y, hY⟩ : ∃ Y, Y = w.alloc (.cells #[.int .i64 (gt s 0), .int .i64 (gt s 1), .int .i64 (gt s 2), .int .i64 (gt s 3), .int .i64 (gt s 4)] 73) := ⟨_, rfl⟩
  have hE : Ext w Y := by rw [hY]; exact (by repeat (first | exact Below.refl _ _ | refine Ext.al ?_ _ | refine Ext.dr ?_ | refine Ext.drN ?_ _ | refine Ext.gr ?_ _ | refine Ext.set ?_ (by simp) _ | (refine Ext.trans' ?_ (by assumption))))
  rw [← hY] at hb ⊢
  have k0 := cell_ext hE hk0
  have hpY := World.block_lt_of_cell? _ _ k0
  simp only at hpY
  have c0q := (hb).c 0 (by omega)
  have c1q := (hb).c 1 (by omega)
  have c2q := (hb).c 2 (by omega)
  have c3q := (hb).c 3 (by omega)
  have c4q := (hb).c 4 (by omega)
  have cfq := (hb).free
  have czq := (hb).lt
  have HS0 := Lib.hid (HS.out.ext hE)
  have HP0 := Lib.hid (HP.out.ext hE)
  have HM0 := Lib.hid (HM.out.ext hE)
  have HE0 := Lib.hid hE
  clear hY hb hE HS HP HM
  refine wpIn_wide.2 ?_
  refine wp_region_rove (Y.heap.size) (Nat.le_refl _)
    [sqV (.agg #[.int .i64 (gt s 0), .int .i64 (gt s 1), .int .i64 (gt s 2), .int .i64 (gt s 3), .int .i64 (gt s 4)]),
     sqV (.pointer (some ⟨p, 0, none⟩)),
     sqV (.pointer (some ⟨p, 0, none⟩)),
     sqV (.pointer (some ⟨p, 0, none⟩)),
     sqV (.agg #[.slice sa ks.length cap]),
     sqV (fv),
     sqV (.tuple #[.agg #[.int .i64 (gt X 0), .int .i64 (gt X 1), .int .i64 (gt X 2), .int .i64 (gt X 3), .int .i64 (gt X 4)], .bool ok]),
     sqV (.tuple #[.agg #[.int .i64 (gt X 0), .int .i64 (gt X 1), .int .i64 (gt X 2), .int .i64 (gt X 3), .int .i64 (gt X 4)], .bool ok]),
     sqV (.agg #[.int .i64 (gt X 0), .int .i64 (gt X 1), .int .i64 (gt X 2), .int .i64 (gt X 3), .int .i64 (gt X 4)]),
     sqV (.bool ok),
     sqW (fun v W => ∃ b, v = .pointer (some ⟨b, 0, none⟩) ∧ Y.heap.size ≤ b ∧ StB W b []) (fun _ _ _ ⟨b, h1, h2, h3⟩ e => ⟨b, h1, h2, h3.ext e⟩),
     sqD [10] (fun l v W => ∃ b, l = [.pointer (some ⟨b, 0, none⟩)] ∧ Y.heap.size ≤ b ∧ StB W b X) (fun _ _ _ _ ⟨b, h1, h2, h3⟩ e => ⟨b, h1, h2, h3.ext e⟩),
     sqV (.bool ok)]
    [true, true, true, true, true, true, true, true, true, true, false, false, true] [false, false, false, false, false, false, false, false, false, false, false, true, false] [true, true, true, true, true, true, true, true, true, true, false, true, true] [true, true, true, true, true, true, true, true, true, false, true, true, false]
    (by kernel_rfl) (by kernel_rfl) (by decide +kernel) (by decide +kernel) (by decide +kernel) rfl ⟨rfl, rfl⟩ ⟨?s0, ?s1, ?s2, ?s3, ?s4, ?s5, ?s6, ?s7, ?s8, ?s9, ?s10, ?s11, ?s12, trivial⟩ [some 14, some 15, some 16, some 17, some 18, some 19, some 20, some 13, some 21, some 22, some 7, none, some 8] rfl rfl ?send
  case s0 =>
    intro val ρ W hE hz hd hA hx
    have o0 : ρ (.tmp 4) = .pointer (some ⟨w.heap.size, 0, none⟩) := hA.old 4 (by decide)
    have f_c0q := cell_below hE (by simp only; omega) c0q
    have f_c1q := cell_below hE (by simp only; omega) c1q
    have f_c2q := cell_below hE (by simp only; omega) c2q
    have f_c3q := cell_below hE (by simp only; omega) c3q
    have f_c4q := cell_below hE (by simp only; omega) c4q
    clear hd
    exact runq_val (W' := W) (by simp [execOp, o0, f_c0q, f_c1q, f_c2q, f_c3q, f_c4q, go_sem]) (Below.refl _ _) rfl
  case s1 =>
    intro val ρ W hE hz hd hA hx
    have o0 : ρ (.tmp 0) = .pointer (some ⟨p, 0, none⟩) := hA.old 0 (by decide)
    clear hd
    exact runq_val (W' := W) (by simp [execOp, o0, go_sem]) (Below.refl _ _) rfl
  case s2 =>
    intro val ρ W hE hz hd hA hx
    have d1 : ρ (.tmp 15) = .pointer (some ⟨p, 0, none⟩) := (hA.dep 1 (by decide) 15 rfl).trans (hd 1 (by decide))
    clear hd
    exact runq_val (W' := W) (by simp [execOp, d1, go_sem]) (Below.refl _ _) rfl
  case s3 =>
    intro val ρ W hE hz hd hA hx
    have d2 : ρ (.tmp 16) = .pointer (some ⟨p, 0, none⟩) := (hA.dep 2 (by decide) 16 rfl).trans (hd 2 (by decide))
    clear hd
    exact runq_val (W' := W) (by simp [execOp, d2, go_sem]) (Below.refl _ _) rfl
  case s4 =>
    intro val ρ W hE hz hd hA hx
    have d3 : ρ (.tmp 17) = .pointer (some ⟨p, 0, none⟩) := (hA.dep 3 (by decide) 17 rfl).trans (hd 3 (by decide))
    have f_k0 := cell_below hE (by simp only; omega) k0
    clear hd
    exact runq_val (W' := W) (by simp [execOp, d3, f_k0, go_sem]) (Below.refl _ _) rfl
  case s5 =>
    intro val ρ W hE hz hd hA hx
    have o0 : ρ (.tmp 2) = fv := hA.old 2 (by decide)
    clear hd
    exact runq_val (W' := W) (by simp [execOp, o0, go_sem]) (Below.refl _ _) rfl
  case s6 =>
    intro val ρ W hE hz hd hA hx
    have d0 : ρ (.tmp 14) = .agg #[.int .i64 (gt s 0), .int .i64 (gt s 1), .int .i64 (gt s 2), .int .i64 (gt s 3), .int .i64 (gt s 4)] := (hA.dep 0 (by decide) 14 rfl).trans (hd 0 (by decide))
    have d4 : ρ (.tmp 18) = .agg #[.slice sa ks.length cap] := (hA.dep 4 (by decide) 18 rfl).trans (hd 4 (by decide))
    have d5 : ρ (.tmp 19) = fv := (hA.dep 5 (by decide) 19 rfl).trans (hd 5 (by decide))
    clear hd
    refine runq_call 64 _ _ rfl #[.agg #[.int .i64 (gt s 0), .int .i64 (gt s 1), .int .i64 (gt s 2), .int .i64 (gt s 3), .int .i64 (gt s 4)], .agg #[.slice sa ks.length cap], fv] (hA.func _) (by simp [d0, d4, d5]) (fun args W => Try.call64 args W) ((CP.out W (HS0.out.ext (hx (by decide))) (HP0.out.ext (hx (by decide)))).mono ?_)
    rintro e w' ⟨rfl, hb⟩
    exact ⟨_, rfl, hb, rfl⟩
  case s7 =>
    intro val ρ W hE hz hd hA hx
    have d6 : ρ (.tmp 20) = .tuple #[.agg #[.int .i64 (gt X 0), .int .i64 (gt X 1), .int .i64 (gt X 2), .int .i64 (gt X 3), .int .i64 (gt X 4)], .bool ok] := (hA.dep 6 (by decide) 20 rfl).trans (hd 6 (by decide))
    clear hd
    exact runq_val (W' := W) (by simp [execOp, d6, go_sem]) (Below.refl _ _) rfl
  case s8 =>
    intro val ρ W hE hz hd hA hx
    have d7 : ρ (.tmp 13) = .tuple #[.agg #[.int .i64 (gt X 0), .int .i64 (gt X 1), .int .i64 (gt X 2), .int .i64 (gt X 3), .int .i64 (gt X 4)], .bool ok] := (hA.dep 7 (by decide) 13 rfl).trans (hd 7 (by decide))
    clear hd
    exact runq_val (W' := W) (by simp [execOp, d7, go_sem]) (Below.refl _ _) rfl
  case s9 =>
    intro val ρ W hE hz hd hA hx
    have d7 : ρ (.tmp 13) = .tuple #[.agg #[.int .i64 (gt X 0), .int .i64 (gt X 1), .int .i64 (gt X 2), .int .i64 (gt X 3), .int .i64 (gt X 4)], .bool ok] := (hA.dep 7 (by decide) 13 rfl).trans (hd 7 (by decide))
    clear hd
    exact runq_val (W' := W) (by simp [execOp, d7, go_sem]) (Below.refl _ _) rfl
  case s12 =>
    intro val ρ W hE hz hd hA hx
    have d9 : ρ (.tmp 22) = .bool ok := (hA.dep 9 (by decide) 22 rfl).trans (hd 9 (by decide))
    clear hd
    exact runq_val (W' := W) (by simp [execOp, d9, go_sem]) (Below.refl _ _) rfl
  case s10 =>
    intro val ρ W hE hz hd hA hx
    exact runq_val (v := .pointer (some ⟨W.heap.size, 0, none⟩)) (W' := W.alloc (.cells #[.int .i64 0, .int .i64 0, .int .i64 0, .int .i64 0, .int .i64 0] 73)) (by simp [execOp, go_sem]) (by exact (by repeat (first | exact Below.refl _ _ | refine Ext.al ?_ _ | refine Ext.dr ?_ | refine Ext.drN ?_ _ | refine Ext.gr ?_ _ | refine Ext.set ?_ (by simp) _ | (refine Ext.trans' ?_ (by assumption))))) ⟨_, rfl, hz, StB.new W []⟩
  case s11 =>
    intro val ρ W hE hz hd hA hx
    obtain ⟨b, e10, hb10, hb⟩ : ∃ b, val 10 = .pointer (some ⟨b, 0, none⟩) ∧ Y.heap.size ≤ b ∧ StB W b [] := hd 10 (by decide)
    have d10 : ρ (.tmp 7) = .pointer (some ⟨b, 0, none⟩) := (hA.dep 10 (by decide) 7 rfl).trans e10
    have d8 : ρ (.tmp 21) = .agg #[.int .i64 (gt X 0), .int .i64 (gt X 1), .int .i64 (gt X 2), .int .i64 (gt X 3), .int .i64 (gt X 4)] := (hA.dep 8 (by decide) 21 rfl).trans (hd 8 (by decide))
    have c0r := (hb).c 0 (by omega)
    have c1r := (hb).c 1 (by omega)
    have c2r := (hb).c 2 (by omega)
    have c3r := (hb).c 3 (by omega)
    have c4r := (hb).c 4 (by omega)
    have cfr := (hb).free
    have czr := (hb).lt
    clear hd
    refine runq_skip (W' := ((((W.setCell ⟨b, 0, none⟩ (.int .i64 (gt X 0))).setCell ⟨b, 1, none⟩ (.int .i64 (gt X 1))).setCell ⟨b, 2, none⟩ (.int .i64 (gt X 2))).setCell ⟨b, 3, none⟩ (.int .i64 (gt X 3))).setCell ⟨b, 4, none⟩ (.int .i64 (gt X 4))) ?_ (below_set5 (Below.refl _ _) hb10 _ _ _ _ _) ⟨b, (show [val 10] = _ by rw [e10]), hb10, hb.set X⟩
    simp [execOp, d10, d8, go_sem, c0r, c1r, c2r, c3r, c4r, cfr]
  case send =>
    intro val WW hE hzz hv
    obtain ⟨-, -, -, -, -, -, -, -, -, -, -, ⟨b, e10, hb10, hb⟩, q12, -⟩ := hv
    have e10' : val 10 = .pointer (some ⟨b, 0, none⟩) := (List.cons.inj (show [val 10] = [Value.pointer (some ⟨b, 0, none⟩)] from e10)).1
    have q12' : val 12 = .bool ok := q12
    have HE1 := Lib.hid (show Ext w WW from HE0.out.trans' hE)
    have hk1 := hE.cell (p := ⟨p, 0, none⟩) hpY
    rw [k0] at hk1
    have HS1 := Lib.hid (HS0.out.ext hE)
    have HM1 := Lib.hid (HM0.out.ext hE)
    simp only [putD, e10', q12']
    go_frame
    clear e10 e10' q12 q12' c0q c1q c2q c3q c4q cfq czq hzz hE HS0 HP0 HM0 HE0 k0
    cases ok
    · have HF := Lib.hid (HOK0.out rfl)
      gi_wp2
      exact ⟨_, results_tmp rfl _ _ _, _, rfl, HE1.out, by unfold leadsF; rw [if_pos HF.out]; exact IsInts.nil _ _⟩
    · obtain ⟨hfu, hX⟩ := HOK1.out rfl
      subst hX
      have HF := Lib.hid hfu
      clear hfu
      obtain ⟨x, hx⟩ : ∃ x, x = upP pl s := ⟨_, rfl⟩
      have hxs := up_st HST.out HF.out
      rw [← hx] at hb hxs
      have HX := Lib.hid hx
      have HXS := Lib.hid hxs
      clear hx hxs
      have c0x := (hb).c 0 (by omega)
      have c1x := (hb).c 1 (by omega)
      have c2x := (hb).c 2 (by omega)
      have c3x := (hb).c 3 (by omega)
      have c4x := (hb).c 4 (by omega)
      have cfx := (hb).free
      have czx := (hb).lt
      have hl5x : x.length = ks.length := isSt_len HXS.out
      gi_wp2
      refine ⟨trivial, (callsIn_wide.2 (visits_any p x _)).mono ?_⟩
      rintro e W5 ⟨rfl, hE5, hb5, hs5, hz5⟩
      simp only [World.size_alloc] at hb5 hs5 hz5
      have hO5 : W5.heap[WW.heap.size]? = some (.cells #[.slice none 0 0] 22 (0, 0)) := by
        refine (hE5.block _ (by simp; omega)).trans ?_
        exact (Below.heap_alloc _ _ _ (by simp)).trans (World.alloc_heap_new WW _)
      have hF5 : W5.cell? ⟨WW.heap.size + 1, 0, none⟩ = some (.func (.func 74) #[.pointer (some ⟨p, 0, none⟩)] #[]) := by
        refine (cell_ext hE5 (v := .func (.func 74) #[.pointer (some ⟨p, 0, none⟩)] #[]) ?_)
        simp [go_sem]
      have hEW : Ext WW W5 := Ext.trans' (by exact (by repeat (first | exact Below.refl _ _ | refine Ext.al ?_ _ | refine Ext.dr ?_ | refine Ext.drN ?_ _ | refine Ext.gr ?_ _ | refine Ext.set ?_ (by simp) _ | (refine Ext.trans' ?_ (by assumption))))) hE5
      have HO5 := Lib.hid hO5
      have HEW := Lib.hid hEW
      have HT5 := Lib.hid (show THd W5 p ks from ⟨sa, cap, cell_ext hEW hk1, HS1.out.ext hEW⟩)
      have HS5 := Lib.hid hs5
      clear hE5 hO5 hs5 hEW
      gi_wp2_with fail
      go_outline
      refine rangeOver (n := 9) (R := fun k => k < W5.heap.size ∧ k ≠ WW.heap.size) rfl (enters_of Try.func109 (by kernel_rfl) rfl)
        (visits_iter ks x n5 (fun k => k < W5.heap.size ∧ k ≠ WW.heap.size) (WW.heap.size + 2) (WW.heap.size + 2 + 1) p W5 (fun k hk => hk.1) ⟨by omega, by omega⟩ hb5 HT5.out HS5.out) (Below.refl _ _) (fun k hk => hk.1) (fun _ => rfl)
        (fun O pre W => (∀ k, O k → W5.heap.size ≤ k) ∧ W5.heap.size ≤ W.heap.size ∧ Ext WW W ∧ W.cell? ⟨WW.heap.size + 1, 0, none⟩ = some (.func (.func 74) #[.pointer (some ⟨p, 0, none⟩)] #[]) ∧ Found WW.heap.size (W5.heap.size + 2) ((leadsTo ks F x pre).map iRow) O W)
        (fun _ _ _ _ => False) ?bears (fun _ _ _ _ _ _ h _ _ _ => h) ⟨fun _ h => h.elim, Nat.le_refl _, HEW.out, hF5, ⟨_, HO5.out, Owns.nil _ _ _ _, fun g hg => (by cases hg)⟩⟩ ?round ?done (fun _ _ _ _ _ _ _ h _ => h.elim)
      case bears =>
        rintro pre O O' A B ⟨g1, g2, g3, g4, g5⟩ hk hO1 hO2
        have hlow : Kept (fun k => k < W5.heap.size) A B := hk.mono fun k _ hk => ⟨fun ho => by have := g1 k ho; omega, by omega⟩
        refine ⟨fun k hk => ?_, by have := hk.size; omega, ?_, hlow.cell g4 (by simp only; omega), g5.kept hk ⟨fun ho => by have := g1 _ ho; omega, by omega⟩ (fun g h1 h2 => ⟨h2, by omega⟩) (fun g h => (hO2 g h).imp id fun h => h.1)⟩
        · rcases hO2 k hk with h | h
          · exact g1 k h
          · omega
        · exact g3.trans (Kept.below (hlow.mono fun k _ h => by omega) g3.size)
      case round =>
        rintro l O pre y W ⟨g1, g2, g3, g4, g5⟩ ⟨rfl, hy⟩ hO2 hW2
        simp only [stV_eq]
        gi_wp2
        refine ⟨(by repeat (first | exact Below.refl _ _ | refine Ext.al ?_ _ | refine Ext.dr ?_ | refine Ext.drN ?_ _ | refine Ext.gr ?_ _ | refine Ext.set ?_ (by simp) _ | (refine Ext.trans' ?_ (by assumption)))), fun W2 hk2 => ?_⟩
        obtain ⟨z, hz⟩ : ∃ z, z = visit x y := ⟨_, rfl⟩
        have hzs : isSt ks z = true := by rw [hz]; exact visit_st HXS.out (fun i hi => by have := V.out.at_ i hi; omega) y
        rw [← hz] at hk2 ⊢
        have hE2 : Ext W (W.alloc (.cells #[.int .i64 (gt z 0), .int .i64 (gt z 1), .int .i64 (gt z 2), .int .i64 (gt z 3), .int .i64 (gt z 4)] 73)) := (by repeat (first | exact Below.refl _ _ | refine Ext.al ?_ _ | refine Ext.dr ?_ | refine Ext.drN ?_ _ | refine Ext.gr ?_ _ | refine Ext.set ?_ (by simp) _ | (refine Ext.trans' ?_ (by assumption))))
        have hb2 : StB W2 W.heap.size z := (StB.new W z).kept hk2 (by omega)
        have g42 := hk2.cell (cell_ext hE2 g4) (by simp only; omega)
        have g32 : Ext WW W2 := (g3.trans' hE2).trans (Kept.below (hk2.mono fun k _ h => by omega) (by have := g3.size; simp; omega))
        have g52 : Found WW.heap.size (W5.heap.size + 2) ((leadsTo ks F x (List.range y)).map iRow) O W2 :=
          (g5.kept (O' := O) (.of_below hE2) (S := fun _ => True) trivial (fun _ _ _ => trivial) (fun _ h => .inl h)).kept hk2 (by omega) (fun g h1 _ => by omega) (fun _ h => .inl h)
        have hz2 := hk2.size
        simp only [World.size_alloc] at hz2
        have HT2 := Lib.hid (show THd W2 p ks from ⟨sa, cap, cell_ext g32 hk1, HS1.out.ext g32⟩)
        have HM2 := Lib.hid (HM1.out.ext g32)
        have c0z := (hb2).c 0 (by omega)
        have c1z := (hb2).c 1 (by omega)
        have c2z := (hb2).c 2 (by omega)
        have c3z := (hb2).c 3 (by omega)
        have c4z := (hb2).c 4 (by omega)
        have cfz := (hb2).free
        have czz := (hb2).lt
        have hcs := fun W ht hm => isSafe_any ks z p F W V.out hzs ht hm
        have hst := leadsTo_snoc ks F x (List.range y) y
        rw [← hz] at hst
        obtain ⟨ob, hob⟩ : ∃ ob, ob = (F (numS ks z)).isSome := ⟨_, rfl⟩
        rw [← hob] at hcs hst
        have HCS := Lib.hid hcs
        have HSTP := Lib.hid hst
        have G3 := Lib.hid g32
        have G5 := Lib.hid g52
        have HO2 := Lib.hid hO2
        clear g3 g4 g5 hk2 hb2 hcs hst g32 g52 hO2 hz hE2 hob
        gi_wp2_with fail
        refine ⟨trivial, (CallsIn.inRound l (callsIn_wide.2 (HCS.out W2 HT2.out HM2.out))).mono ?_⟩
        rintro e W3 ⟨rfl, hE3⟩
        have G33 := Lib.hid (G3.out.trans' hE3)
        have g43 := cell_ext hE3 g42
        have hz3 := hE3.size
        have HE3 := Lib.hid hE3
        have g53 := G5.out.kept (O' := O) (.of_below hE3) (S := fun _ => True) trivial (fun _ _ _ => trivial) (fun _ h => .inl h)
        clear g42 HM2 HT2 hE3 c0z c1z c2z c3z c4z cfz czz
        cases ob
        · rw [if_neg (by simp), List.append_nil] at HSTP
          gi_wp2_with fail
          refine ⟨.of_below HE3.out, g1, by omega, G33.out, g43, ?_⟩
          rw [HSTP.out]
          exact g53
        · rw [if_pos rfl] at HSTP
          obtain ⟨ov, hov, hown, hno⟩ := g53
          obtain ⟨oa, on, oc, rfl⟩ := hown.isSlice
          have ho0 : W3.cell? ⟨WW.heap.size, 0, none⟩ = some (.slice oa on oc) := by rw [cell_of_row _ _ _ _ _ _ hov]; rfl
          have hof : W3.frozen? ⟨WW.heap.size, 0, none⟩ = false := by simp [World.frozen?, hov]
          have hzo := (Array.getElem?_eq_some_iff.1 hov).1
          have HLL : Hid (((leadsTo ks F x (List.range y)).map iRow).length + [iRow (y : Int)].length ≤ 1000000) := by
            refine Lib.hid ?_
            have : (leadsTo ks F x (List.range y)).length ≤ (List.range y).length := by unfold leadsTo; rw [List.length_map]; exact List.length_filter_le _ _
            rw [List.length_range] at this
            rw [List.length_map]
            show _ + 1 ≤ _
            omega
          have HOV := Lib.hid hov
          have HOWN := Lib.hid hown
          have HNO := Lib.hid hno
          clear hov hown hno
          gi_wp2_with (refine wpOwnIn rfl (.tmp 35) (.tmp 37) elInt rfl (W5.heap.size + 2) rfl (HOWN.out.ext (by exact (by repeat (first | exact Below.refl _ _ | refine Ext.al ?_ _ | refine Ext.dr ?_ | refine Ext.drN ?_ _ | refine Ext.gr ?_ _ | refine Ext.set ?_ (by simp) _ | (refine Ext.trans' ?_ (by assumption)))))) W3.heap.size 0 1 [iRow (y : Int)] rfl (by simp [iRow]) (newRow _ (iRow (y : Int)) _) (by simp [iRow, Value.oneCell']) HLL.out (by simp; omega) ?_)
          intro v' W4 hown4 hk4 hat4
          have hob4 := hown4.notOwn
          have hov4 := (hk4.same WW.heap.size (by simp; omega) (fun h => by
            have := HOWN.out.notOwn _ h.symm; omega)).trans ((Below.heap_alloc W3 _ _ hzo).trans HOV.out)
          have ho4 : W4.cell? ⟨WW.heap.size, 0, none⟩ = some (.slice oa on oc) := by rw [cell_of_row _ _ _ _ _ _ hov4]; rfl
          have hof4 : W4.frozen? ⟨WW.heap.size, 0, none⟩ = false := by simp [World.frozen?, hov4]
          obtain ⟨va, vn, vc, rfl⟩ := hown4.isSlice
          have HK4 := Lib.hid hk4
          have HAT4 := Lib.hid hat4
          have HOWN4 := Lib.hid hown4
          have HOV4 := Lib.hid hov4
          clear hk4 hat4 hown4 hov4 hob4
          gi_wp2_with fail
          have hkS : ∀ (S : Nat → Prop), (∀ g, (Value.slice oa on oc).ownBlock = some g → ¬ S g) → ¬ S WW.heap.size → Kept S W3 (W4.setCell ⟨WW.heap.size, 0, none⟩ (.slice va vn vc)) := fun S h1 h2 =>
            (((Kept.refl S W3).alloc _).trans (HK4.out.mono fun k _ hk e => h1 k e.symm hk)).setCell (fun _ => h2) _
          have hz4 := HK4.out.size
          simp only [World.size_alloc] at hz4
          have ho5 : ∀ g, (Value.slice oa on oc).ownBlock = some g → W5.heap.size + 2 ≤ g ∧ ¬ O g := fun g hg => ⟨(HOWN.out.notOwn g hg).1, HNO.out g hg⟩
          refine ⟨(Kept.of_below HE3.out).trans (hkS _ (fun g hg h => ?_) (fun h => ?_)), g1, by simp [World.setCell]; omega, ?_, ?_, _, ?_, (by rw [HSTP.out, List.map_append]; exact (HOWN4.out.setOther HOV4.out (by decide) 0 _).base (by omega)), fun g hg ho => ?_⟩
          · have := ho5 g hg
            rcases h with h | h | h | h
            · omega
            · exact this.2 h
            · omega
            · omega
          · rcases h with h | h | h | h
            · exact h.2 rfl
            · have := g1 _ h; omega
            · omega
            · omega
          · exact G33.out.trans (Kept.below (hkS _ (fun g hg h => by have := ho5 g hg; omega) (by omega)) G33.out.size)
          · exact (hkS (fun k => k = WW.heap.size + 1) (fun g hg h => by have := ho5 g hg; omega) (by omega)).cell g43 rfl
          · exact heap_setCell_row HOV4.out 0 _
          · rcases HAT4.out g hg with h | h
            · exact HNO.out g h ho
            · have := (HO2.out g ho).2; have : W3.heap.size + 1 ≤ g := by simpa using h
              omega
      case done =>
        rintro D O xs W hD rfl ⟨g1, g2, g3, g4, g5⟩ hDk
        obtain ⟨ov, hov, hown, hno⟩ := g5
        obtain ⟨oa, on, oc, rfl⟩ := hown.isSlice
        have ho0 : W.cell? ⟨WW.heap.size, 0, none⟩ = some (.slice oa on oc) := by rw [cell_of_row _ _ _ _ _ _ hov]; rfl
        have HOWN := Lib.hid hown
        have HDK := Lib.hid hDk
        have hDlt := (Array.getElem?_eq_some_iff.1 hDk).1
        clear hov hown hno hDk
        gi_wp2_with fail
        refine ⟨by simp, .inl ⟨_, _, rfl, run_takeDeferred HDK.out, ?_⟩⟩
        refine ⟨_, results_tmp rfl _ _ _, _, rfl, ?_, ?_⟩
        · have h1 := HE1.out.trans' g3
          have hk := (((Kept.of_below h1 : Kept (fun k => k < w.heap.size) w W)).putObj (r := D) (.deferred none) (fun h2 h3 => by have := h1.size; have := g3.size; have := HE1.out.size; omega))
          exact hk.below (Nat.le_refl _)
        · have e : leadsF ks F pl s = leadsTo ks F x (List.range ks.length) := by
            unfold leadsF; rw [if_neg (by rw [HF.out]; simp), ← HX.out]; rfl
          rw [e]
          exact (HOWN.out.putOther HDK.out _).oneInts
theorem leads_any (ks s : List Int) (p : Nat) (F : Int → Option Unit) (fv : Value) (pl : Nat → Bool) (w : World) (v : TVal ks) (hst : isSt ks s = true) (ht : THd w p ks) (hm : TMp w p ks F) (hp : Pulls w fv pl) :
    Calls Try.prog 86 #[.pointer (some ⟨p, 0, none⟩), stV s, fv] w fun e W => ∃ r, e = .returned r ∧ Ext w W ∧ IsInts W .i64 r (leadsF ks F pl s) :=
  callsIn_wide.1 (leads_in ks s p F fv pl w v hst ht hm hp)
end Go.Proofs.Ytndgaklcnhoddaa
namespace Go.Proofs.Ytndgaklcnhoddaa
open Go.RowKit Go.Shelf
theorem RowsAt.kept {S : Nat → Prop} {w w' : World} (k : Kept S w w') {sz b off : Nat} {rows : List (List Value)} (hb : S b) (hr : RowsAt w sz b off rows) : RowsAt w' sz b off rows :=
  fun i hi j hj => k.cell (hr i hi j hj) hb
theorem IsRows.kept {S : Nat → Prop} {w w' : World} (k : Kept S w w') {sz : Nat} {v : Value} {rows : List (List Value)} (hb : ∀ g, v.ownBlock = some g → S g) (hr : IsRows w sz v rows) : IsRows w' sz v rows := by
  obtain ⟨sa, cap, h1, h2, h3, h4⟩ := hr
  refine ⟨sa, cap, h1, h2, h3, ?_⟩
  rcases h4 with h4 | ⟨b, off, e, h4⟩
  · exact .inl h4
  · exact .inr ⟨b, off, e, h4.kept k (hb b (by rw [h1, e]; rfl))⟩
theorem Kept.step {S T : Nat → Prop} {w a b : World} (h : Kept S w a) (k : Kept T a b) (hs : ∀ j, j < w.heap.size → S j → T j) : Kept S w b :=
  ⟨k.os.trans h.os, k.tape.trans h.tape, k.output.trans h.output, Nat.le_trans h.size k.size, fun j hj hsj => (k.same j (Nat.lt_of_lt_of_le hj h.size) (hs j hj hsj)).trans (h.same j hj hsj)⟩
theorem Owns.keptAt {S : Nat → Prop} {w w' : World} {B : Nat} {e : TypeId} {sz : Nat} {v : Value} {rows : List (List Value)} (h : Owns w B e sz v rows) (k : Kept S w w') (hs : ∀ g cur, B ≤ g → v.ownBlock = some g → w.heap[g]? = some (.cells cur e (0, 0)) → S g) : Owns w' B e sz v rows := by
  refine ⟨⟨h.1.1, ?_⟩, h.2⟩
  rcases h.1.2 with a | ⟨g, cap, cur, hv, hb, hg, hr⟩
  · exact .inl a
  · exact .inr ⟨g, cap, cur, hv, hb, (k.same g (Array.getElem?_eq_some_iff.1 hg).1 (hs g cur hb (by rw [hv]; rfl) hg)).trans hg, hr⟩
/-- the states to which visits lead, in blocks of S -/
def TNxS (S : Nat → Prop) (W : World) (p : Nat) (ks : List Int) : Prop := ∃ b off cap, W.cell? ⟨p, 2, none⟩ = some (.slice (some ⟨b, off, none⟩) (nSt ks) cap) ∧ nSt ks ≤ cap ∧ cap ≤ 9223372036854775807 ∧ S b ∧ S p ∧
  ∀ i, i < nSt ks → ∃ sa cp, W.cell? ⟨b, off + i, none⟩ = some (.slice sa (nxN ks i).length cp) ∧ IsInts W .i64 (.slice sa (nxN ks i).length cp) (nxN ks i) ∧ ∀ g, (Value.slice sa (nxN ks i).length cp).ownBlock = some g → S g
theorem TNxS.at {S : Nat → Prop} {W : World} {p : Nat} {ks : List Int} (h : TNxS S W p ks) : TNx W p ks := by
  obtain ⟨b, off, cap, h1, h2, h3, _, _, h4⟩ := h
  exact ⟨b, off, cap, h1, h2, h3, fun i hi => by obtain ⟨sa, cp, a, c, _⟩ := h4 i hi; exact ⟨sa, cp, a, c⟩⟩
theorem TNxS.kept {S : Nat → Prop} {W W' : World} {p : Nat} {ks : List Int} (h : TNxS S W p ks) (k : Kept S W W') : TNxS S W' p ks := by
  obtain ⟨b, off, cap, h1, h2, h3, hb, hp, h4⟩ := h
  refine ⟨b, off, cap, k.cell h1 hp, h2, h3, hb, hp, fun i hi => ?_⟩
  obtain ⟨sa, cp, a, c, d⟩ := h4 i hi
  exact ⟨sa, cp, k.cell a hb, IsRows.kept k d c, d⟩
/-- the rows, in a block of their own -/
def RowB (W : World) (rb : Nat) (ks : List Int) (rows : Int → Int) : Prop := ∃ cur : Array Value, W.heap[rb]? = some (.cells cur 3 (0, 0)) ∧ ∀ i : Nat, i < nSt ks → cur[i]? = some (.int .i64 (rows i))
theorem RowB.of_heap {W W' : World} {rb : Nat} {ks : List Int} {rows : Int → Int} (h : RowB W rb ks rows) (e : W'.heap[rb]? = W.heap[rb]?) : RowB W' rb ks rows := by
  obtain ⟨cur, h1, h2⟩ := h; exact ⟨cur, e.trans h1, h2⟩
theorem RowB.lt {W : World} {rb : Nat} {ks : List Int} {rows : Int → Int} (h : RowB W rb ks rows) : rb < W.heap.size := by
  obtain ⟨cur, h1, h2⟩ := h; exact (Array.getElem?_eq_some_iff.1 h1).1
theorem RowB.rw {W : World} {rb p rc : Nat} {ks : List Int} {rows : Int → Int} (h : RowB W rb ks rows) (c3 : W.cell? ⟨p, 3, none⟩ = some (.slice (some ⟨rb, 0, none⟩) (nSt ks) rc)) (h1 : nSt ks ≤ rc) (h2 : rc ≤ 9223372036854775807) : TRw W p ks rows := by
  obtain ⟨cur, h3, h4⟩ := h
  exact ⟨rb, 0, rc, c3, h1, h2, fun i hi => by rw [cell_of_row _ _ _ _ _ _ h3, Nat.zero_add]; exact h4 i hi⟩
theorem RowB.set {W : World} {rb : Nat} {ks : List Int} {rows : Int → Int} (h : RowB W rb ks rows) (i : Nat) (m : Int) : RowB (W.setCell ⟨rb, i, none⟩ (.int .i64 m)) rb ks (fun x => if x = (i : Int) then m else rows x) := by
  obtain ⟨cur, h1, h2⟩ := h
  refine ⟨_, heap_setCell_row h1 i _, fun j hj => ?_⟩
  by_cases e : j = i
  · subst e
    simp only [if_true]
    rw [set_on _ (Array.getElem?_eq_some_iff.1 (h2 j hj)).1]
  · have : ((j : Int) = (i : Int)) = False := eq_false (by omega)
    simp only [this, if_false]
    rw [Array.getElem?_setIfInBounds, if_neg (fun h => e h.symm), h2 j hj]
/-- the states of which it is not known -/
def FofR (ks : List Int) (rows : Int → Int) : Int → Option Unit := fun i => if 0 ≤ i ∧ i < prodK ks ∧ rows i < 0 then some () else none
theorem fofR_some {ks : List Int} {rows : Int → Int} {i : Int} {u : Unit} (h : FofR ks rows i = some u) : 0 ≤ i ∧ i < prodK ks ∧ rows i < 0 := by
  unfold FofR at h
  split at h
  · assumption
  · cases h
theorem fofR_of {ks : List Int} {rows : Int → Int} {i : Int} (h : 0 ≤ i ∧ i < prodK ks ∧ rows i < 0) : FofR ks rows i = some () := by unfold FofR; rw [if_pos h]
/-- how many there are, read off the world -/
def cntW (W : World) (rb : Nat) (ks : List Int) : Nat :=
  match W.heap[rb]? with
  | some (.cells cur _ _) => ((List.range (nSt ks)).filter fun i => match cur[i]? with | some (Value.int _ n) => decide (n < 0) | _ => false).length
  | _ => 0
theorem cntW_eq {W : World} {rb : Nat} {ks : List Int} {rows : Int → Int} (h : RowB W rb ks rows) : cntW W rb ks = ((List.range (nSt ks)).filter fun (i : Nat) => decide (rows i < 0)).length := by
  obtain ⟨cur, h1, h2⟩ := h
  unfold cntW
  rw [h1]
  simp only
  congr 1
  refine List.filter_congr fun i hi => ?_
  rw [h2 i (List.mem_range.1 hi)]
theorem cnt_lt {ks : List Int} {rows rows1 : Int → Int} (hle : ∀ i : Nat, rows1 i < 0 → rows i < 0) {i : Nat} (hi : i < nSt ks) (h0 : rows i < 0) (h1 : ¬ rows1 i < 0) :
    ((List.range (nSt ks)).filter fun (i : Nat) => decide (rows1 i < 0)).length < ((List.range (nSt ks)).filter fun (i : Nat) => decide (rows i < 0)).length := by
  have e : ((List.range (nSt ks)).filter fun (i : Nat) => decide (rows1 i < 0)) = ((List.range (nSt ks)).filter fun (i : Nat) => decide (rows i < 0)).filter fun (i : Nat) => decide (rows1 i < 0) := by
    rw [List.filter_filter]
    refine List.filter_congr fun a _ => ?_
    rw [Bool.eq_iff_iff]; simp
    exact hle a
  rw [e]
  exact List.length_filter_lt_length_iff_exists.2 ⟨i, List.mem_filter.2 ⟨by simpa using hi, by simpa using h0⟩, by simpa using h1⟩
section
variable {K V : Type} [DecidableEq K]
theorem getE_mem {es : Ents K V} (ho : Once es) {e : K × V × Nat} (he : e ∈ es) : getE es e.1 = some e.2.1 := by
  unfold getE
  cases h : es.find? fun x => decide (x.1 = e.1) with
  | none => rw [List.find?_eq_none] at h; have := h e he; simp at this
  | some x =>
    have h1 := List.find?_some h
    have h2 := List.mem_of_find?_eq_some h
    have : x = e := nodup_inj _ _ ho x h2 e he (by simpa using h1)
    rw [this]; rfl
theorem mem_getE {es : Ents K V} {k : K} {v : V} (h : getE es k = some v) : ∃ e ∈ es, e.1 = k := by
  unfold getE at h
  obtain ⟨x, hx, _⟩ := Option.map_eq_some_iff.1 h
  exact ⟨x, List.mem_of_find?_eq_some hx, by simpa using List.find?_some hx⟩
variable {P : Program} {tm tk tv : TypeId} {ke : K → Value} {ve : V → Value} (hk : Keyed P tm tk tv ke ve)
include hk
theorem MapIs.dele {W : World} {r : Nat} {F : K → Option V} (h : MapIs ke ve W r F) (k : K) (ty : TypeId) :
    ∃ W', (Builtin.delete_ #[tm, tk] ty #[.map (some r), ke k]).run P W = .ok (.tuple #[]) W' ∧ W.grownBy W' (some r) ∧ MapIs ke ve W' r (fun k' => if k' = k then none else F k') := by
  obtain ⟨es, c, h1, h2, h3, h4⟩ := h
  obtain ⟨W', a, b, _, d, e, f⟩ := MapIs.del hk h1 h2 h3 k ty
  exact ⟨W', a, b, _, c, d, e, f, fun k' => by rw [getE_del, h4]⟩
end
/-- a round: those that were found are known now -/
def RoundR (ks : List Int) (rows0 rows : Int → Int) (l : List Int) : Prop := RowsOk ks rows ∧ (∀ i ∈ l, 0 ≤ i ∧ i < prodK ks ∧ rows0 i < 0 ∧ 0 ≤ rows i) ∧ ∀ i, i ∉ l → rows i = rows0 i
theorem RoundR.start {ks : List Int} {rows : Int → Int} (h : RowsOk ks rows) : RoundR ks rows rows [] := ⟨h, fun i hi => (by cases hi), fun _ _ => rfl⟩
theorem RoundR.more {ks : List Int} (v : TVal ks) {rows0 rows : Int → Int} {l : List Int} (h : RoundR ks rows0 rows l) {i m : Int} (hi : 0 ≤ i ∧ i < prodK ks ∧ rows0 i < 0) (e : bndL rows 0 (nxN ks i) = some m) :
    RoundR ks rows0 (fun x => if x = i then m else rows x) (l ++ [i]) := by
  obtain ⟨a, _⟩ := bnd_rk v h.1 e
  refine ⟨h.1.set v e, fun x hx => ?_, fun x hx => ?_⟩
  · by_cases hxi : x = i
    · subst hxi; simp only [if_true]; exact ⟨hi.1, hi.2.1, hi.2.2, a⟩
    · simp only [if_neg hxi]
      exact h.2.1 x (by simpa [hxi] using hx)
  · have hxi : x ≠ i := fun e => hx (by simp [e])
    simp only [if_neg hxi]
    exact h.2.2 x (fun hh => hx (by simp [hh]))
theorem RoundR.fof {ks : List Int} {rows0 rows : Int → Int} {l : List Int} (h : RoundR ks rows0 rows l) (k : Int) : (if k ∈ l then none else FofR ks rows0 k) = FofR ks rows k := by
  by_cases hk : k ∈ l
  · rw [if_pos hk]
    unfold FofR
    rw [if_neg (fun hh => by have := h.2.1 k hk; omega)]
  · rw [if_neg hk]
    unfold FofR
    rw [h.2.2 k hk]
end Go.Proofs.Ytndgaklcnhoddaa
