/-
  The walks of the statements' functions long, several and fine.
-/
import Derived.Test.YtgcldgchhdjnhaaWorks
namespace Go.Proofs.Ytgcldgchhdjnhaa
open Go.RowKit Go.Shelf
def longB (l : List Stp) : Bool := (decide (40 < l.length) && decide (l.length ≤ 200)) || decide (210 < l.length)
def severalB (ll : List (List Stp)) : Bool := decide (30 < ll.length) || ll.any longB
set_option maxHeartbeats 1000000 in
theorem long_any (l : List Stp) (lv : Value) (w : World) (hl : IsStps w lv l) : Calls Try.prog 27 #[lv] w fun e w' => e = .returned (.bool (longB l)) ∧ Ext w w' := by
  obtain ⟨sa, cap, rfl, h1, h2, -⟩ := hl.spec
  clear hl
  by_cases ha : 40 < l.length
  · have ha' : decide ((40 : Int) < (l.length : Int)) = true := decide_eq_true (by omega)
    by_cases hb : l.length ≤ 200
    · have hb' : decide ((l.length : Int) ≤ 200) = true := decide_eq_true (by omega)
      have e : longB l = true := by simp [longB]; omega
      have E := Lib.hid e
      clear ha hb e
      go_enter Try.func27, Try.ntmps27
      go_wp2_with fail
      go_ret
      exact ⟨ret_bool (by rw [E.out]), Below.refl _ _⟩
    · have hb' : decide ((l.length : Int) ≤ 200) = false := decide_eq_false (by omega)
      by_cases hc : 210 < l.length
      · have hc' : decide ((210 : Int) < (l.length : Int)) = true := decide_eq_true (by omega)
        have e : longB l = true := by simp [longB]; omega
        have E := Lib.hid e
        clear ha hb hc e
        go_enter Try.func27, Try.ntmps27
        go_wp2_with fail
        go_ret
        exact ⟨ret_bool (by rw [E.out]), Below.refl _ _⟩
      · have hc' : decide ((210 : Int) < (l.length : Int)) = false := decide_eq_false (by omega)
        have e : longB l = false := by simp [longB]; omega
        have E := Lib.hid e
        clear ha hb hc e
        go_enter Try.func27, Try.ntmps27
        go_wp2_with fail
        go_ret
        exact ⟨ret_bool (by rw [E.out]), Below.refl _ _⟩
  · have ha' : decide ((40 : Int) < (l.length : Int)) = false := decide_eq_false (by omega)
    have hc' : decide ((210 : Int) < (l.length : Int)) = false := decide_eq_false (by omega)
    have e : longB l = false := by simp [longB]; omega
    have E := Lib.hid e
    clear ha e
    go_enter Try.func27, Try.ntmps27
    go_wp2_with fail
    go_ret
    exact ⟨ret_bool (by rw [E.out]), Below.refl _ _⟩
set_option maxRecDepth 100000 in
set_option maxHeartbeats 1000000 in
theorem several_any (ps : List (Value × List Stp)) (rv : Value) (w : World) (hv : IsRngs w rv ps) : Calls Try.prog 33 #[rv] w fun e w' => e = .returned (.bool (severalB (ps.map (·.2)))) ∧ Ext w w' := by
  obtain ⟨sa, cap, rfl, h1, h2, -⟩ := hv.spec
  have HV := Lib.hid hv
  clear hv
  by_cases ha : 30 < ps.length
  · have ha' : decide ((30 : Int) < (ps.length : Int)) = true := decide_eq_true (by omega)
    have e : severalB (ps.map (·.2)) = true := by simp [severalB, ha]
    have E := Lib.hid e
    clear ha e
    go_enter Try.func33, Try.ntmps33
    go_wp2_with fail
    go_ret
    exact ⟨ret_bool (by rw [E.out]), Below.refl _ _⟩
  · have ha' : decide ((30 : Int) < (ps.length : Int)) = false := decide_eq_false (by omega)
    have e : severalB (ps.map (·.2)) = ps.any (fun x => longB x.2) := by
      unfold severalB
      rw [List.length_map, decide_eq_false ha, Bool.false_or, any_map2]
    have E := Lib.hid e
    clear ha e
    go_enter Try.func33, Try.ntmps33
    go_wp2_with fail
    go_loopw [3] (fun i W => ∃ k : Nat, k ≤ ps.length ∧ i = .int .i64 k ∧ (∀ x ∈ ps.take k, longB x.2 = false) ∧ Ext w W) (fun i _ => ps.length - (intOf i).toNat)
    case atStart => exact ⟨0, Nat.zero_le _, rfl, by simp, Below.refl _ _⟩
    case round =>
      obtain ⟨k, hk, rfl, hno, hb⟩ := hrel
      have HN := Lib.hid hno
      have HB := Lib.hid hb
      by_cases hlt : k < ps.length
      · rcases (HV.out.ext hb).opened with e | ⟨rb, ro, rfl, hrc⟩
        · simp [e] at hlt
        have hck := hrc k hlt
        have hst := (HV.out.2 ps[k] (List.getElem_mem hlt)).ext hb
        have HST := Lib.hid hst
        clear hno hb hrc hst
        go_wp2_with fail
        refine callGr (long_any ps[k].2 ps[k].1 _ HST.out) fun g => ?_
        cases hx : longB ps[k].2
        · have HX := Lib.hid hx
          clear hx
          go_wp2_with fail
          go_roundw
          case rel => exact ⟨k + 1, by omega, by go_num, take_ext (p := fun x => longB x.2) hlt HN.out HX.out, HB.out.trans' (grow_below _ _)⟩
          case measure => simp [intOf]; omega
        · have HX := Lib.hid hx
          clear hx
          go_wp2_with fail
          go_ret
          exact ⟨ret_bool (by rw [E.out, any_of_at hlt (p := fun x => longB x.2) HX.out]), HB.out.trans' (grow_below _ _)⟩
      · have hnone := take_all hlt HN.out
        have HNO := Lib.hid hnone
        clear hno hb hnone
        go_wp2_with fail
        go_ret
        exact ⟨ret_bool (by rw [E.out, any_of_none HNO.out]), HB.out⟩
set_option maxHeartbeats 1000000 in
theorem fine_any (h : Hall) (sv : Value) (w : World) (hs : IsCnts w sv h.cs) :
    Calls Try.prog 46 #[.agg #[.int .i64 h.n, .int .i64 h.most, sv]] w fun e w' => e = .returned (.bool (chk h == 0)) ∧ Ext w w' := by
  obtain ⟨sa, cap, rfl, hl1, hl2, -⟩ := hs.spec
  have HS := Lib.hid hs
  clear hs
  obtain ⟨c, hc⟩ : ∃ c, c = chk h := ⟨_, rfl⟩
  have c2 := fun w hs => checkHallR_any h (.slice sa h.cs.length cap) w hs
  rw [← hc] at c2 ⊢
  have C2 := Lib.hid c2
  have HC := Lib.hid hc
  clear c2 hc
  go_enter Try.func46, Try.ntmps46
  go_wp2_with fail
  refine callGr (great_any h _ _ (HS.out.ext (by exact (by repeat (first | exact Below.refl _ _ | refine Ext.al ?_ _ | refine Ext.dr ?_ | refine Ext.drN ?_ _ | refine Ext.gr ?_ _ | refine Ext.set ?_ (by simp) _ | (refine Ext.trans' ?_ (by assumption))))))) fun g => ?_
  by_cases hg : 20 < h.cs.length
  · have e : (c == 0) = false := by
      have : chk h = 6 := by unfold chk; rw [if_pos (by omega)]
      rw [HC.out, this]; rfl
    have E := Lib.hid e
    rw [decide_eq_true hg]
    clear hg e
    go_wp2_with fail
    go_ret
    exact ⟨ret_bool (by rw [E.out]), (by repeat (first | exact Below.refl _ _ | refine Ext.al ?_ _ | refine Ext.dr ?_ | refine Ext.drN ?_ _ | refine Ext.gr ?_ _ | refine Ext.set ?_ (by simp) _ | (refine Ext.trans' ?_ (by assumption))))⟩
  · rw [decide_eq_false hg]
    clear hg
    go_wp2_with fail
    refine callGr2 (C2.out _ (HS.out.ext (by exact (by repeat (first | exact Below.refl _ _ | refine Ext.al ?_ _ | refine Ext.dr ?_ | refine Ext.drN ?_ _ | refine Ext.gr ?_ _ | refine Ext.set ?_ (by simp) _ | (refine Ext.trans' ?_ (by assumption))))))) fun g => ?_
    go_wp2_with fail
    go_ret
    exact ⟨ret_bool rfl, (by repeat (first | exact Below.refl _ _ | refine Ext.al ?_ _ | refine Ext.dr ?_ | refine Ext.drN ?_ _ | refine Ext.gr ?_ _ | refine Ext.set ?_ (by simp) _ | (refine Ext.trans' ?_ (by assumption))))⟩
end Go.Proofs.Ytgcldgchhdjnhaa
