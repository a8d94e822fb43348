/-
  The walk of the reference's All: what it returns is new memory.
-/
import Derived.Test.YtndgaklcnhoddaaRa
namespace Go.Proofs.Ytndgaklcnhoddaa
open Go.RowKit Go.Shelf
set_option maxRecDepth 100000 in
set_option maxHeartbeats 1000000 in
theorem allO_any (ks : List Int) (kv : Value) (w : World) (hv : IsInts w .i64 kv ks) (h0 : 0 < ks.length) (h5 : ks.length ≤ 1000) :
    Calls Try.prog 56 #[.agg #[kv]] w fun e W => ∃ g cp, e = .returned (.slice (some ⟨g, 0, none⟩) ks.length cp) ∧ Ext w W ∧ ks.length ≤ cp ∧ cp ≤ 9223372036854775807 ∧ w.heap.size ≤ g ∧ NumB W g ks.length (gt (upL ks.length)) := by
  obtain ⟨sa, cap, rfl, h1, h2, -⟩ := hv.spec
  have HV := Lib.hid hv
  clear hv
  go_enter Try.func56, Try.ntmps56
  go_upto_region 1 with (fail)
  obtain ⟨W0, hW0⟩ : ∃ W0, W0 = w.alloc (.cells #[.slice sa ks.length cap] 24) := ⟨_, rfl⟩
  have hE : Ext w W0 := by rw [hW0]; exact (by repeat (first | exact Below.refl _ _ | refine Ext.al ?_ _ | refine Ext.dr ?_ | refine Ext.drN ?_ _ | refine Ext.gr ?_ _ | refine Ext.set ?_ (by simp) _ | (refine Ext.trans' ?_ (by assumption))))
  have k0 : W0.cell? ⟨w.heap.size, 0, none⟩ = some (.slice sa ks.length cap) := by rw [hW0]; simp [go_sem]
  have hz : w.heap.size < W0.heap.size := World.block_lt_of_cell? _ _ k0
  have HS := Lib.hid (HV.out.ext hE)
  have HW := Lib.hid hE
  rw [← hW0]
  clear hW0 HV
  clear hE
  go_wp2_with fail
  go_loopw [3, 4] (fun a i W => ∃ k : Nat, k ≤ ks.length ∧ i = .int .i64 k ∧ Ext W0 W ∧ Owns W W0.heap.size 3 1 a ((upL k).map iRow)) (fun _ i _ => ks.length - (intOf i).toNat)
  case atStart => exact ⟨0, by omega, rfl, Below.refl _ _, Owns.nil _ _ _ _⟩
  case round =>
    obtain ⟨k, hk, rfl, hE, hown⟩ := hrel
    obtain ⟨oa, on, oc, rfl⟩ := hown.isSlice
    have k0' := cell_ext hE k0
    have hzr := World.block_lt_of_cell? _ _ k0'
    have hsz := hE.size
    simp only at hzr
    have HO := Lib.hid hown
    have HE := Lib.hid hE
    clear hE hown
    by_cases hlt : k < ks.length
    · have g0 : decide ((k : Int) < (ks.length : Int)) = true := decide_eq_true (by omega)
      have hlen : (upL k).length = k := by simp [upL]
      have HLEN := Lib.hid hlen
      clear hlen
      go_wp2_with (at_builtin; refine wpOwn rfl (.tmp 12) (.tmp 14) elInt rfl W0.heap.size rfl (HO.out.ext (by exact (by repeat (first | exact Below.refl _ _ | refine Ext.al ?_ _ | refine Ext.dr ?_ | refine Ext.drN ?_ _ | refine Ext.gr ?_ _ | refine Ext.set ?_ (by simp) _ | (refine Ext.trans' ?_ (by assumption)))))) wr.heap.size 0 1 [iRow (k : Int)] rfl (by simp [iRow]) (newRow _ (iRow (k : Int)) _) (by simp [iRow, Value.oneCell']) (by rw [List.length_map, HLEN.out]; simp; omega) (by simp; omega) ?_)
      intro v' w' hown' hbel
      obtain ⟨va, vn, vc, rfl⟩ := hown'.isSlice
      have HO2 := Lib.hid hown'
      have HB2 := Lib.hid hbel
      clear hown' hbel
      go_wp2_with fail
      go_roundw
      case rel =>
        refine ⟨k + 1, by omega, by go_num, (show Ext W0 _ from HE.out.trans' (by repeat (first | exact Below.refl _ _ | refine Ext.al ?_ _ | refine Ext.dr ?_ | refine Ext.drN ?_ _ | refine Ext.gr ?_ _ | refine Ext.set ?_ (by simp) _ | (refine Ext.trans' ?_ (by assumption))))).trans HB2.out, ?_⟩
        have e : upL (k + 1) = upL k ++ [(k : Int)] := by unfold upL; rw [List.range_succ, List.map_append]; rfl
        rw [e, List.map_append]
        exact HO2.out
      case measure => simp [intOf]; omega
    · have g0 : decide ((k : Int) < (ks.length : Int)) = false := decide_eq_false (by omega)
      have HK := Lib.hid (show k = ks.length by omega)
      have hul : (upL ks.length).length = ks.length := by simp [upL]
      have hown := HO.out
      rw [HK.out] at hown
      obtain ⟨g, cp, ev, hc1, hc2, hg, hN⟩ := hown.cellsN (by omega)
      rw [hul] at ev hc1 hN
      cases ev
      have HN := Lib.hid hN
      have HG := Lib.hid (show w.heap.size ≤ g by have := HW.out.size; omega)
      have HC := Lib.hid (And.intro hc1 hc2)
      clear hown hN hg hul hc1 hc2
      go_wp2_with fail
      go_ret
      exact ⟨_, _, by first | rfl | (rw [HK.out]), HW.out.trans' HE.out, HC.out.1, HC.out.2, HG.out, HN.out⟩
end Go.Proofs.Ytndgaklcnhoddaa
