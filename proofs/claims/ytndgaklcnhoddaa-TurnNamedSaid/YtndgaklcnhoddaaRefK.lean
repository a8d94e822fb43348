/-
  The walks of the reference's States, index, State and IsSafe.
-/
import Derived.Test.YtndgaklcnhoddaaRa
import Derived.Test.YtndgaklcnhoddaaWb
namespace Go.Proofs.Ytndgaklcnhoddaa
open Go.RowKit Go.Shelf
set_option maxRecDepth 100000 in
set_option maxHeartbeats 1000000 in
theorem statesR_any (ks : List Int) (kv : Value) (w : World) (hv : IsInts w .i64 kv ks) (v : TVal ks) :
    Calls Try.prog 55 #[.agg #[kv]] w fun e w' => e = .returned (.int .i64 (prodK ks)) ∧ Ext w w' := by
  obtain ⟨sa, cap, rfl, h1, h2, -⟩ := hv.spec
  have HV := Lib.hid hv
  have HB := Lib.hid v.kb
  have h5 := v.n5
  have n1 := v.n1
  clear hv v
  go_enter Try.func55, Try.ntmps55
  go_upto_region 1 with (fail)
  obtain ⟨W0, hW0⟩ : ∃ W0, W0 = w.alloc (.cells #[.slice sa ks.length cap] 24) := ⟨_, rfl⟩
  have hE : Ext w W0 := by rw [hW0]; exact (by repeat (first | exact Below.refl _ _ | refine Ext.al ?_ _ | refine Ext.dr ?_ | refine Ext.drN ?_ _ | refine Ext.gr ?_ _ | refine Ext.set ?_ (by simp) _ | (refine Ext.trans' ?_ (by assumption))))
  have k0 : W0.cell? ⟨w.heap.size, 0, none⟩ = some (.slice sa ks.length cap) := by rw [hW0]; simp [go_sem]
  have hz : w.heap.size < W0.heap.size := World.block_lt_of_cell? _ _ k0
  have HS := Lib.hid (HV.out.ext hE)
  have HW := Lib.hid hE
  rw [← hW0]
  clear hW0 HV
  clear hE
  obtain ⟨b, off, rfl, hkz, HKC⟩ := HS.out.at_all n1
  go_wp2_with fail
  go_loop [3, 4] (fun n i => ∃ k : Nat, k ≤ ks.length ∧ i = .int .i64 k ∧ n = .int .i64 (prodK (ks.take k))) (fun _ i => ks.length - (intOf i).toNat)
  case atStart => exact ⟨0, Nat.zero_le _, rfl, by simp [prodK]⟩
  case round =>
    obtain ⟨k, hk, rfl, rfl⟩ := hrel
    by_cases hlt : k < ks.length
    · have hki : (k : Int) < (ks.length : Int) := by omega
      have c0 := HKC W0 (Below.refl _ _) k hlt
      have hx := HB.out ks[k] (List.getElem_mem hlt)
      rw [gt_get hlt] at hx
      have hpt := prod_take ks k hlt
      rw [gt_get hlt] at hpt
      have hb1 := prod_bd (ks.take k) fun x hx => HB.out x (List.mem_of_mem_take hx)
      have hb2 := prod_bd (ks.take (k + 1)) fun x hx => HB.out x (List.mem_of_mem_take hx)
      have hp1 := pow13 (n := (ks.take k).length) (by simp; omega)
      have hp2 := pow13 (n := (ks.take (k + 1)).length) (by simp; omega)
      obtain ⟨p, hp⟩ : ∃ p, p = prodK (ks.take k) := ⟨_, rfl⟩
      obtain ⟨x, hxx⟩ : ∃ x, x = gt ks k := ⟨_, rfl⟩
      rw [← hp, ← hxx] at hpt
      rw [← hp] at hb1 ⊢
      rw [← hxx] at c0 hx
      rw [hpt] at hb2
      have q1 : 0 ≤ p := by omega
      have q2 : p ≤ 371293 := by omega
      have q3 : 1 ≤ p * (x + 1) := by omega
      have q4 : p * (x + 1) ≤ 371293 := by omega
      have HPT := Lib.hid hpt
      have HK := Lib.hid HKC
      clear hb1 hb2 hp1 hp2 hp hxx hpt HKC
      go_wp2_with fail
      go_round
      case rel => exact ⟨k + 1, by omega, by go_num, by rw [HPT.out]⟩
      case measure => simp [intOf]; omega
    · have hki : ¬ ((k : Int) < (ks.length : Int)) := by omega
      have HKL := Lib.hid (show prodK (ks.take k) = prodK ks by rw [List.take_of_length_le (by omega)])
      have HK := Lib.hid HKC
      clear HKC
      go_wp2_with fail
      go_ret
      exact ⟨ret_int HKL.out, HW.out⟩
set_option maxRecDepth 100000 in
set_option maxHeartbeats 2000000 in
theorem indexR_any (ks s : List Int) (kv sv : Value) (w : World) (hv : IsInts w .i64 kv ks) (hl : IsInts w .i64 sv s) (v : TVal ks) (hst : isSt ks s = true) :
    Calls Try.prog 79 #[.agg #[kv], sv] w fun e W => e = .returned (.int .i64 (numS ks s)) ∧ Ext w W := by
  obtain ⟨sa, cap, rfl, h1, h2, -⟩ := hv.spec
  obtain ⟨la, lcap, rfl, h3, h4, -⟩ := hl.spec
  have HV := Lib.hid hv
  have HL0 := Lib.hid hl
  have V := Lib.hid v
  have n1 := v.n1
  have n5 := v.n5
  have hlen := isSt_len hst
  have HLEN := Lib.hid hlen
  have HST := Lib.hid hst
  clear hv hl v hst hlen
  go_enter Try.func79, Try.ntmps79
  go_upto_region 1 with (fail)
  obtain ⟨W0, hW0⟩ : ∃ W0, W0 = w.alloc (.cells #[.slice sa ks.length cap] 24) := ⟨_, rfl⟩
  have hE : Ext w W0 := by rw [hW0]; exact (by repeat (first | exact Below.refl _ _ | refine Ext.al ?_ _ | refine Ext.dr ?_ | refine Ext.drN ?_ _ | refine Ext.gr ?_ _ | refine Ext.set ?_ (by simp) _ | (refine Ext.trans' ?_ (by assumption))))
  have k0 : W0.cell? ⟨w.heap.size, 0, none⟩ = some (.slice sa ks.length cap) := by rw [hW0]; simp [go_sem]
  have hz : w.heap.size < W0.heap.size := World.block_lt_of_cell? _ _ k0
  have HS := Lib.hid (HV.out.ext hE)
  have HW := Lib.hid hE
  rw [← hW0]
  clear hW0 HV
  have HL := Lib.hid (HL0.out.ext hE)
  clear hE HL0
  obtain ⟨b, off, rfl, hkz, HKC⟩ := HS.out.at_all n1
  obtain ⟨b2, off2, rfl, hlz, HLC⟩ := HL.out.at_all (by rw [HLEN.out]; exact n1)
  have KC := Lib.hid HKC
  have LC := Lib.hid HLC
  clear HKC HLC
  go_wp2_with fail
  go_loopw [5, 6] (fun nv i W => ∃ (k : Nat) (m : Int), k ≤ ks.length ∧ nv = .int .i64 m ∧ i = .int .i64 k ∧ 0 ≤ m ∧ m < preK ks k ∧ numS ks s = numA m (ks.drop k) (s.drop k) ∧ Ext W0 W) (fun _ i _ => ks.length - (intOf i).toNat)
  case atStart => exact ⟨0, 0, by omega, rfl, rfl, by omega, by simp [preK, prodK], by simp [numS], Below.refl _ _⟩
  case round =>
    obtain ⟨k, m, hk, rfl, rfl, hm0, hm1, hm, hE⟩ := hrel
    have HE := Lib.hid hE
    have k1 := cell_ext hE k0
    have hz1 := World.block_lt_of_cell? _ _ k1
    simp only at hz1
    by_cases hlt : k < ks.length
    · have hki : (k : Int) < (ks.length : Int) := by omega
      have hls : k < s.length := by rw [HLEN.out]; exact hlt
      have hlsi : (k : Int) < (s.length : Int) := by omega
      have c0 := KC.out wr hE k hlt
      have d0 := LC.out wr hE k hls
      have hcz := World.block_lt_of_cell? _ _ c0
      have hdz := World.block_lt_of_cell? _ _ d0
      simp only at hcz hdz
      have hkb := V.out.at_ k hlt
      have hsb := isSt_gt HST.out k hlt
      have e1 := numA_drop (s := s) hlt HLEN.out m
      have e2 := preK_succ hlt
      have e3 := preK_le V.out.nn k
      have e4 := preK_le V.out.nn (k + 1)
      have e5 := V.out.pr
      obtain ⟨x, hx⟩ : ∃ x, x = gt ks k := ⟨_, rfl⟩
      obtain ⟨y, hy⟩ : ∃ y, y = gt s k := ⟨_, rfl⟩
      have hxb : 1 ≤ x ∧ x ≤ 12 := by rw [hx]; exact hkb
      rw [← hx, ← hy] at hsb e1
      rw [← hx] at c0 e2
      rw [← hy] at d0
      have hmul1 : m * (x + 1) ≤ (preK ks k - 1) * (x + 1) := Int.mul_le_mul_of_nonneg_right (by omega) (by omega)
      have hmul0 : 0 ≤ m * (x + 1) := Int.mul_nonneg hm0 (by omega)
      rw [Int.sub_mul] at hmul1
      have hlast : m * (x + 1) + y < preK ks (k + 1) := by rw [e2]; omega
      have hm1000 : m * (x + 1) ≤ 1000 := by omega
      have hw0 : IntKind.i64.wrap (x + 1) = x + 1 := IntWalk.i64_in _ (by omega)
      have hw1 : IntKind.i64.wrap (m * (x + 1)) = m * (x + 1) := IntWalk.i64_in _ (by omega)
      have hw2 : IntKind.i64.wrap (m * (x + 1) + y) = m * (x + 1) + y := IntWalk.i64_in _ (by omega)
      have hlast0 : 0 ≤ m * (x + 1) + y := by omega
      have E1 := Lib.hid (hm.trans e1)
      clear hx hy hm e1 e2 hE hmul1 hkb
      go_upto_region 5 with (fail)
      go_quiet (fail)
      go_wp2_with fail
      go_roundw
      case rel => exact ⟨k + 1, m * (x + 1) + y, by omega, by go_num, by go_num, hlast0, hlast, E1.out, HE.out.drN _⟩
      case measure => simp [intOf]; omega
    · obtain rfl : k = ks.length := by omega
      rw [List.drop_length] at hm
      have hfin : numS ks s = m := by rw [hm]; cases hd : s.drop ks.length <;> rfl
      have HF := Lib.hid hfin
      have hls : ¬ ((ks.length : Int) < (s.length : Int)) := by have := HLEN.out; omega
      clear hm hE hfin
      go_wp2_with fail
      go_ret
      exact ⟨ret_int HF.out.symm, HW.out.trans' HE.out⟩
set_option maxRecDepth 100000 in
set_option maxHeartbeats 2000000 in
theorem stateR_any (ks : List Int) (n : Nat) (kv : Value) (w : World) (hv : IsInts w .i64 kv ks) (v : TVal ks) (hn : n ≤ 1000000) :
    Calls Try.prog 78 #[.agg #[kv], .int .i64 n] w fun e W => ∃ r, e = .returned r ∧ Ext w W ∧ IsInts W .i64 r (stOf ks n) := by
  obtain ⟨sa, cap, rfl, h1, h2, -⟩ := hv.spec
  have HV := Lib.hid hv
  have V := Lib.hid v
  have n1 := v.n1
  have n5 := v.n5
  clear hv v
  go_enter Try.func78, Try.ntmps78
  go_upto_region 1 with (fail)
  obtain ⟨W0, hW0⟩ : ∃ W0, W0 = w.alloc (.cells #[.slice sa ks.length cap] 24) := ⟨_, rfl⟩
  have hE : Ext w W0 := by rw [hW0]; exact (by repeat (first | exact Below.refl _ _ | refine Ext.al ?_ _ | refine Ext.dr ?_ | refine Ext.drN ?_ _ | refine Ext.gr ?_ _ | refine Ext.set ?_ (by simp) _ | (refine Ext.trans' ?_ (by assumption))))
  have k0 : W0.cell? ⟨w.heap.size, 0, none⟩ = some (.slice sa ks.length cap) := by rw [hW0]; simp [go_sem]
  have hz : w.heap.size < W0.heap.size := World.block_lt_of_cell? _ _ k0
  have HS := Lib.hid (HV.out.ext hE)
  have HW := Lib.hid hE
  rw [← hW0]
  clear hW0 HV
  clear hE
  obtain ⟨b, off, rfl, hkz, HKC⟩ := HS.out.at_all n1
  have KC := Lib.hid HKC
  clear HKC
  go_wp2_with fail
  refine (emptyR_any ks _ _ (HS.out.ext (by exact (by repeat (first | exact Below.refl _ _ | refine Ext.al ?_ _ | refine Ext.dr ?_ | refine Ext.drN ?_ _ | refine Ext.gr ?_ _ | refine Ext.set ?_ (by simp) _ | (refine Ext.trans' ?_ (by assumption)))))) (by omega)).mono ?_
  rintro e W1 ⟨g, rfl, hE1, hg, hN⟩
  have hz1 := hN.lt
  have HN := Lib.hid hN
  have HE1 := Lib.hid hE1
  have hw0 := HW.out.size
  clear hE1 hN
  go_wp2_with fail
  go_loopw [1, 6] (fun nv i W => ∃ (k : Nat) (m : Int), k ≤ ks.length ∧ nv = .int .i64 m ∧ i = .int .i64 ((k : Int) - 1) ∧ 0 ≤ m ∧ m ≤ 1000000 ∧ m = (stN (ks.drop k) n).2 ∧ Ext W0 W ∧ NumB W g ks.length (fun j => if k ≤ j then gt (stOf ks n) j else 0)) (fun _ i _ => (intOf i + 1).toNat)
  case atStart => exact ⟨ks.length, n, by omega, rfl, by go_num, by omega, by omega, by rw [List.drop_length]; rfl, HE1.out, HN.out.congr fun j hj => by rw [if_neg (by omega)]⟩
  case round =>
    obtain ⟨k, m, hk, rfl, rfl, hm0, hm1, hm, hE, hI⟩ := hrel
    have HI := Lib.hid hI
    have HE := Lib.hid hE
    have k1 := cell_ext hE k0
    have hzk := World.block_lt_of_cell? _ _ k1
    have hzg := hI.lt
    simp only at hzk
    by_cases hlt : 0 < k
    · obtain ⟨k, rfl⟩ : ∃ j, k = j + 1 := ⟨k - 1, by omega⟩
      have hkl : k < ks.length := by omega
      have hg0 : decide ((0 : Int) ≤ (k : Int)) = true := decide_eq_true (by omega)
      have c0 := KC.out wr hE k hkl
      have hbl := World.block_lt_of_cell? _ _ c0
      simp only at hbl
      have hki : (k : Int) < (ks.length : Int) := by omega
      have hkb := V.out.at_ k hkl
      have e1 := stOf_at n hkl
      have e2 := stN_drop hkl n
      rw [← hm] at e1 e2
      obtain ⟨x, hx⟩ : ∃ x, x = gt ks k := ⟨_, rfl⟩
      have hxb : 1 ≤ x ∧ x ≤ 12 := by rw [hx]; exact hkb
      rw [← hx] at c0 e1 e2
      have hcast : ((k + 1 : Nat) : Int) - 1 = (k : Int) := by omega
      have ht1 : m.tmod (x + 1) = m % (x + 1) := Int.tmod_eq_emod_of_nonneg hm0
      have ht2 : m.tdiv (x + 1) = m / (x + 1) := Int.tdiv_eq_ediv_of_nonneg hm0
      have hm3 := Int.emod_nonneg m (show x + 1 ≠ 0 by omega)
      have hm4 := Int.emod_lt_of_pos m (show 0 < x + 1 by omega)
      have hd1 : 0 ≤ m / (x + 1) := Int.ediv_nonneg hm0 (by omega)
      have hd2 : m / (x + 1) ≤ m := Int.ediv_le_self _ hm0
      have hw1 : IntKind.i64.wrap (m % (x + 1)) = m % (x + 1) := IntWalk.i64_in _ (by omega)
      have hw2 : IntKind.i64.wrap (m / (x + 1)) = m / (x + 1) := IntWalk.i64_in _ (by omega)
      have hxz : (x + 1 == 0) = false := by simp; omega
      have hcell : wr.cell? ⟨g, k, none⟩ = some (.int .i64 0) := by rw [hI.cell k hkl, if_neg (by omega)]
      have hfr := hI.free k
      have hne1 : (g = b) = False := eq_false (by omega)
      have hne2 : (b = g) = False := eq_false (by omega)
      have hne3 : (g = w.heap.size) = False := eq_false (by omega)
      have hne4 : (w.heap.size = g) = False := eq_false (by omega)
      have E1 := Lib.hid e1
      have E2 := Lib.hid e2
      clear hx hE hI e1 e2 hm hkb
      rw [hcast]
      clear hcast
      go_wp2_with fail
      go_roundw
      case rel => exact ⟨k, m / (x + 1), by omega, rfl, by go_num, hd1, by omega, E2.out.symm, HE.out.setCell (by simp only; omega) _, (HI.out.set k _).congr fun j hj => by
          show (if j = k then _ else (if k + 1 ≤ j then gt (stOf ks n) j else 0)) = if k ≤ j then gt (stOf ks n) j else 0
          by_cases e : j = k
          · subst e; rw [if_pos rfl, if_pos (Nat.le_refl _), E1.out]
          · rw [if_neg e]
            by_cases h : k ≤ j
            · rw [if_pos (show k + 1 ≤ j by omega), if_pos h]
            · rw [if_neg (show ¬ (k + 1 ≤ j) by omega), if_neg h]⟩
      case measure => simp [intOf] <;> omega
    · obtain rfl : k = 0 := by omega
      have hg0 : decide ((0 : Int) ≤ (0 : Int) - 1) = false := by decide
      clear hI hE hm
      go_wp2_with fail
      go_ret
      exact ⟨_, rfl, HW.out.trans' HE.out, (HI.out.congr fun j hj => by rw [if_pos (Nat.zero_le _)]).intsC (by rw [stOf_len]) (Nat.le_refl _) (by omega)⟩
end Go.Proofs.Ytndgaklcnhoddaa
