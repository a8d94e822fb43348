/-
  The walk of the reference's Steps.
-/
import Derived.Test.YtgcldgchhdjnhaaWay
namespace Go.Proofs.Ytgcldgchhdjnhaa
open Go.RowKit Go.Shelf

def upS (h : Hall) (k : Nat) : List Stp := (List.range k).flatMap (pairAt h)
theorem upS_succ (h : Hall) (k : Nat) : upS h (k + 1) = upS h k ++ pairAt h k := by simp [upS, List.range_succ]
theorem upS_len (h : Hall) (k : Nat) : (upS h k).length = 2 * k := by
  induction k with
  | zero => rfl
  | succ k ih => rw [upS_succ, List.length_append, ih, pairAt_len]; omega

set_option maxRecDepth 100000 in
set_option maxHeartbeats 2000000 in
theorem stepsR_any (h : Hall) (sv : Value) (v : Valid h) (w : World) (hs : IsCnts w sv h.cs) :
    Calls Try.prog 77 #[.agg #[.int .i64 h.n, .int .i64 h.most, sv]] w fun e w' => ∃ lv, e = .returned lv ∧ Ext w w' ∧ IsStps w' lv (stps h) := by
  obtain ⟨ca, ccap, rfl, hm1, hm2, -⟩ := hs.spec
  have n1 := v.n1
  have n10 := v.n10
  have hl10 := v.len
  obtain ⟨N, hN⟩ : ∃ N : Nat, h.n = N := ⟨h.n.toNat, by omega⟩
  have HN := Lib.hid hN
  have hst : stps h = upS h (N + h.cs.length) := by unfold stps upS; rw [hN]; simp
  have HST := Lib.hid hst
  rw [hN] at n1 n10 ⊢
  clear hs v hN hst
  go_enter Try.func77, Try.ntmps77
  go_wp2_with fail
  obtain ⟨w0, hw0⟩ : ∃ w0 : World, w0 = w.alloc (.cells #[.int .i64 (N : Int), .int .i64 h.most, .slice ca h.cs.length ccap] 24) := ⟨_, rfl⟩
  have k0 : w0.cell? ⟨w.heap.size, 0, none⟩ = some (.int .i64 N) := by rw [hw0]; simp [go_sem]
  have k2 : w0.cell? ⟨w.heap.size, 2, none⟩ = some (.slice ca h.cs.length ccap) := by rw [hw0]; simp [go_sem]
  have hE0 : Ext w w0 := by rw [hw0]; exact (by repeat (first | exact Below.refl _ _ | refine Ext.al ?_ _ | refine Ext.dr ?_ | refine Ext.drN ?_ _ | refine Ext.gr ?_ _ | refine Ext.set ?_ (by simp) _ | (refine Ext.trans' ?_ (by assumption))))
  have HE0 := Lib.hid hE0
  rw [← hw0]
  have K0 := Lib.hid k0
  have K2 := Lib.hid k2
  clear hw0 hE0 k0 k2
  go_loopw [3, 4] (fun v i W => ∃ k : Nat, k ≤ N ∧ i = .int .i64 k ∧ Ext w0 W ∧ Owns W w0.heap.size 89 3 v (sRows (upS h k))) (fun _ i _ => N - (intOf i).toNat)
  case atStart => exact ⟨0, by omega, rfl, Below.refl _ _, Owns.nil _ _ _ _⟩
  case round =>
    obtain ⟨k, hk, rfl, hE, hown⟩ := hrel
    have HE := Lib.hid hE
    have HO := Lib.hid hown
    have hz := hE.size
    by_cases hlt : k < N
    · have k0 := cell_ext hE K0.out
      have hrl : (sRows (upS h k)).length = 2 * k := by simp [sRows, upS_len]
      have hpair : pairAt h k = [⟨true, k, false⟩, ⟨true, k, true⟩] := by unfold pairAt; rw [if_pos (by have := HN.out; omega)]
      have HRL := Lib.hid hrl
      have HP := Lib.hid hpair
      clear hE hown hrl hpair
      go_wp2_with (at_builtin; refine wpOwn rfl (.tmp 12) (.tmp 17) elStp rfl w0.heap.size rfl (HO.out.ext (by exact (by repeat (first | exact Below.refl _ _ | refine Ext.al ?_ _ | refine Ext.dr ?_ | refine Ext.drN ?_ _ | refine Ext.gr ?_ _ | refine Ext.set ?_ (by simp) _ | (refine Ext.trans' ?_ (by assumption)))))) wr.heap.size 0 2 (sRows [⟨true, k, false⟩, ⟨true, k, true⟩]) rfl sRows_len ?c1 (by simp [sRows, Stp.cells, Value.oneCell']) (by rw [HRL.out]; simp [sRows]; omega) (by simp; omega) ?_)
      case c1 =>
        intro i hi j hj
        have hj3 : j < 3 := by rw [sRows_len _ (List.getElem_mem hi)] at hj; exact hj
        match i, hi, j, hj3, hj with
        | 0, _, 0, _, _ => simp [go_sem, sRows, Stp.cells]
        | 0, _, 1, _, _ => simp [go_sem, sRows, Stp.cells]
        | 0, _, 2, _, _ => simp [go_sem, sRows, Stp.cells]
        | 1, _, 0, _, _ => simp [go_sem, sRows, Stp.cells]
        | 1, _, 1, _, _ => simp [go_sem, sRows, Stp.cells]
        | 1, _, 2, _, _ => simp [go_sem, sRows, Stp.cells]
        | n + 2, hi, _, _, _ => exact absurd (show n + 2 < 2 from hi) (by omega)
      intro v' w' hown' hb'
      have hEr : Ext w0 w' := HE.out.trans (Below.trans (by exact ((Below.refl _ _).alloc (by omega) _)) hb')
      have HEr := Lib.hid hEr
      have HO' := Lib.hid hown'
      clear hEr hown' hb' k0
      go_wp2_with fail
      go_roundw
      case rel =>
        refine ⟨k + 1, by omega, by go_num, HEr.out, ?_⟩
        rw [upS_succ, HP.out]
        have := HO'.out
        simpa [sRows] using this
      case measure => simp [intOf]; omega
    · obtain rfl : k = N := by omega
      have k0 := cell_ext hE K0.out
      have k2 := cell_ext hE K2.out
      have K2' := Lib.hid k2
      obtain ⟨w1, rfl⟩ : ∃ w1 : World, w1 = wr := ⟨_, rfl⟩
      clear hE hown k2
      go_wp2_with fail
      clear k0
      go_loopw [3, 5] (fun v i W => ∃ j : Nat, j ≤ h.cs.length ∧ i = .int .i64 j ∧ Ext w0 W ∧ w1.heap.size ≤ W.heap.size ∧ W.cell? ⟨w.heap.size, 2, none⟩ = some (.slice ca h.cs.length ccap) ∧ Owns W w0.heap.size 89 3 v (sRows (upS h (k + j)))) (fun _ i _ => h.cs.length - (intOf i).toNat)
      case atStart => exact ⟨0, by omega, rfl, HE.out, Nat.le_refl _, K2'.out, HO.out⟩
      case round =>
        obtain ⟨j, hj, rfl, hE, hz2, k2, hown⟩ := hrel
        have HE2 := Lib.hid hE
        have HO2 := Lib.hid hown
        have K22 := Lib.hid k2
        have hbk : w.heap.size < wr.heap.size := World.block_lt_of_cell? _ _ k2
        by_cases hltj : j < h.cs.length
        · have hrl : (sRows (upS h (k + j))).length = 2 * (k + j) := by simp [sRows, upS_len]
          have hpair : pairAt h (k + j) = [⟨false, j, false⟩, ⟨false, j, true⟩] := by
            unfold pairAt
            have := HN.out
            rw [if_neg (by omega)]
            have e : ((k + j : Nat) : Int) - h.n = j := by omega
            rw [e]
          have HRL := Lib.hid hrl
          have HP := Lib.hid hpair
          clear hE hown hrl hpair
          go_wp2_with (at_builtin; refine wpOwn rfl (.tmp 26) (.tmp 31) elStp rfl w0.heap.size rfl (HO2.out.ext (by exact (by repeat (first | exact Below.refl _ _ | refine Ext.al ?_ _ | refine Ext.dr ?_ | refine Ext.drN ?_ _ | refine Ext.gr ?_ _ | refine Ext.set ?_ (by simp) _ | (refine Ext.trans' ?_ (by assumption)))))) wr.heap.size 0 2 (sRows [⟨false, j, false⟩, ⟨false, j, true⟩]) rfl sRows_len ?c1 (by simp [sRows, Stp.cells, Value.oneCell']) (by rw [HRL.out]; simp [sRows]; omega) (by simp; omega) ?_)
          case c1 =>
            intro i hi j hj
            have hj3 : j < 3 := by rw [sRows_len _ (List.getElem_mem hi)] at hj; exact hj
            match i, hi, j, hj3, hj with
            | 0, _, 0, _, _ => simp [go_sem, sRows, Stp.cells]
            | 0, _, 1, _, _ => simp [go_sem, sRows, Stp.cells]
            | 0, _, 2, _, _ => simp [go_sem, sRows, Stp.cells]
            | 1, _, 0, _, _ => simp [go_sem, sRows, Stp.cells]
            | 1, _, 1, _, _ => simp [go_sem, sRows, Stp.cells]
            | 1, _, 2, _, _ => simp [go_sem, sRows, Stp.cells]
            | n + 2, hi, _, _, _ => exact absurd (show n + 2 < 2 from hi) (by omega)
          intro v' w' hown' hb'
          have hEr : Ext w0 w' := HE2.out.trans (Below.trans (by exact ((Below.refl _ _).alloc (by omega) _)) hb')
          have hw0k : w.heap.size < w0.heap.size := World.block_lt_of_cell? _ _ K2.out
          have hk2' : w'.cell? ⟨w.heap.size, 2, none⟩ = some (.slice ca h.cs.length ccap) := cell_ext hEr K2.out
          have hsz' : w1.heap.size ≤ w'.heap.size := by have := hb'.size; simp at this; omega
          have HEr := Lib.hid hEr
          have HO' := Lib.hid hown'
          have HK2' := Lib.hid hk2'
          clear hEr hown' hb' k2 hk2'
          go_wp2_with fail
          go_roundw
          case rel =>
            refine ⟨j + 1, by omega, by go_num, HEr.out, hsz', HK2'.out, ?_⟩
            rw [← Nat.add_assoc, upS_succ, HP.out]
            have := HO'.out
            simpa [sRows] using this
          case measure => simp [intOf]; omega
        · obtain rfl : j = h.cs.length := by omega
          clear hE hown
          go_wp2_with fail
          refine bodyPost_ret (v := _) (by simp [results, Try.results77, go_sem]; rfl) rfl ?_
          refine ⟨_, rfl, HE0.out.trans' HE2.out, ?_⟩
          rw [HST.out]
          exact HO2.out.isRows
end Go.Proofs.Ytgcldgchhdjnhaa
