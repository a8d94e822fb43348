/-
  The walk of the statements' function wide.
-/
import Derived.Test.YtndgaklcnhoddaaHalls
import Derived.Test.YtndgaklcnhoddaaRefK
namespace Go.Proofs.Ytndgaklcnhoddaa
open Go.RowKit Go.Shelf
def wideB (ks : List Int) (m : Int) : Bool := decide (tchk ks = 0) && decide (m < prodK ks)
set_option maxRecDepth 100000 in
set_option maxHeartbeats 1000000 in
theorem wideL_any (ks : List Int) (m : Int) (kv : Value) (w : World) (hv : IsInts w .i64 kv ks) :
    Calls Try.prog 30 #[.agg #[kv], .int .i64 m] w fun e W => e = .returned (.bool (wideB ks m)) ∧ Ext w W := by
  obtain ⟨sa, cap, rfl, h1, h2, -⟩ := hv.spec
  have HV := Lib.hid hv
  clear hv
  go_enter Try.func30, Try.ntmps30
  go_upto_region 1 with (fail)
  obtain ⟨W0, hW0⟩ : ∃ W0, W0 = w.alloc (.cells #[.slice sa ks.length cap] 24) := ⟨_, rfl⟩
  have hE : Ext w W0 := by rw [hW0]; exact (by repeat (first | exact Below.refl _ _ | refine Ext.al ?_ _ | refine Ext.dr ?_ | refine Ext.drN ?_ _ | refine Ext.gr ?_ _ | refine Ext.set ?_ (by simp) _ | (refine Ext.trans' ?_ (by assumption))))
  have k0 : W0.cell? ⟨w.heap.size, 0, none⟩ = some (.slice sa ks.length cap) := by rw [hW0]; simp [go_sem]
  have hz : w.heap.size < W0.heap.size := World.block_lt_of_cell? _ _ k0
  have HS := Lib.hid (HV.out.ext hE)
  have HW := Lib.hid hE
  rw [← hW0]
  clear hW0 HV
  clear hE



  go_wp2_with fail
  refine callW (W0 := W0) (g := ⟨W0, Below.refl _ _⟩) (by exact (by repeat (first | exact Below.refl _ _ | refine Ext.al ?_ _ | refine Ext.dr ?_ | refine Ext.drN ?_ _ | refine Ext.gr ?_ _ | refine Ext.set ?_ (by simp) _ | (refine Ext.trans' ?_ (by assumption))))) (checkHallR_any ks _ _ (HS.out.ext (by exact (by repeat (first | exact Below.refl _ _ | refine Ext.al ?_ _ | refine Ext.dr ?_ | refine Ext.drN ?_ _ | refine Ext.gr ?_ _ | refine Ext.set ?_ (by simp) _ | (refine Ext.trans' ?_ (by assumption))))))) fun g1 hgr => ?_
  clear hgr
  by_cases hc : tchk ks = 0
  · have HC := Lib.hid hc
    have V := Lib.hid (tval_of hc)
    rw [hc]
    clear hc
    go_wp2_with fail
    refine callW (W0 := W0) (g := g1) (by exact (by repeat (first | exact Below.refl _ _ | refine Ext.al ?_ _ | refine Ext.dr ?_ | refine Ext.drN ?_ _ | refine Ext.gr ?_ _ | refine Ext.set ?_ (by simp) _ | (refine Ext.trans' ?_ (by assumption))))) (statesR_any ks _ _ (HS.out.ext (by exact (by repeat (first | exact Below.refl _ _ | refine Ext.al ?_ _ | refine Ext.dr ?_ | refine Ext.drN ?_ _ | refine Ext.gr ?_ _ | refine Ext.set ?_ (by simp) _ | (refine Ext.trans' ?_ (by assumption)))))) V.out) fun g2 hgr => ?_
    clear hgr
    obtain ⟨p, hp⟩ : ∃ p, p = prodK ks := ⟨_, rfl⟩
    rw [← hp]
    have HP := Lib.hid hp
    clear hp
    by_cases hm : m < p
    · have hd : decide (m < p) = true := decide_eq_true hm
      have hd2 : decide (p > m) = true := decide_eq_true hm
      have HM := Lib.hid hm
      clear hm
      go_wp2_with fail
      go_ret
      exact ⟨ret_bool (by unfold wideB; rw [decide_eq_true HC.out, ← HP.out, decide_eq_true HM.out]; rfl), HW.out.trans' (grow_below W0 _)⟩
    · have hd : decide (m < p) = false := decide_eq_false hm
      have hd2 : decide (p > m) = false := decide_eq_false hm
      have HM := Lib.hid hm
      clear hm
      go_wp2_with fail
      go_ret
      exact ⟨ret_bool (by unfold wideB; rw [decide_eq_true HC.out, ← HP.out, decide_eq_false (by have := HM.out; omega)]; rfl), HW.out.trans' (grow_below W0 _)⟩
  · have e1 : (tchk ks == 0) = false := by simpa using hc
    have HC := Lib.hid hc
    clear hc
    go_wp2_with fail
    go_ret
    exact ⟨ret_bool (by unfold wideB; rw [decide_eq_false HC.out]; rfl), HW.out.trans' (grow_below W0 _)⟩
end Go.Proofs.Ytndgaklcnhoddaa
