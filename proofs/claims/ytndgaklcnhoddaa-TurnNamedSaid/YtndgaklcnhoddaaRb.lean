/-
  Plain: the answers of the chapter's examples, by tables that the kernel goes through.
  Plain: the answers of the examples in Works.
  The walk of the reference's CheckDoom.
  The walk of Works.
-/
import Derived.Test.YtndgaklcnhoddaaWe
import Derived.Test.YtndgaklcnhoddaaWf
import Derived.Test.YtndgaklcnhoddaaWd
import Derived.Test.YtndgaklcnhoddaaWa
import Derived.Test.YtndgaklcnhoddaaRa
namespace Go.Proofs.Ytndgaklcnhoddaa
/-- the rank of a state in a table by numbers -/
def tabT (ks l : List Int) (s : List Int) : Int := l.getD (numS ks s).toNat 0
def tabOk (ks l : List Int) : Bool := (List.range (nSt ks)).all fun (i : Nat) =>
  let s := stOf ks i
  let t := tabT ks l s
  if t < 0 then t == -1 && (nxS ks s).any fun x => decide (tabT ks l x < 0)
  else ((nxS ks s).all fun x => decide (0 ≤ tabT ks l x) && decide (tabT ks l x < t)) && (t == 0 || (nxS ks s).any fun x => tabT ks l x == t - 1)
theorem tab_row {ks l : List Int} (v : TVal ks) (h : tabOk ks l = true) : ∀ s, isSt ks s = true → rowOf (nxS ks) s = tabT ks l s := by
  have hst : ∀ s, isSt ks s = true → (let t := tabT ks l s
      if t < 0 then t == -1 && (nxS ks s).any fun x => decide (tabT ks l x < 0)
      else ((nxS ks s).all fun x => decide (0 ≤ tabT ks l x) && decide (tabT ks l x < t)) && (t == 0 || (nxS ks s).any fun x => tabT ks l x == t - 1)) = true := fun s hs => by
    have hb := numS_bd v.nn hs
    have hN := nSt_eq v
    have h1 := List.all_eq_true.1 h (numS ks s).toNat (List.mem_range.2 (by omega))
    have e : (((numS ks s).toNat : Nat) : Int) = numS ks s := by omega
    simp only [e, st_num v.nn hs] at h1
    exact h1
  refine rowOf_table (P := fun s => isSt ks s = true) (fun i hi => nxS_st v hi) ?_ ?_
  · intro s hs ht
    have h1 := hst s hs
    simp only [if_pos ht, Bool.and_eq_true, beq_iff_eq, List.any_eq_true, decide_eq_true_eq] at h1
    exact h1
  · intro s hs ht
    have h1 := hst s hs
    simp only [if_neg (show ¬ tabT ks l s < 0 by omega), Bool.and_eq_true, List.all_eq_true, decide_eq_true_eq, Bool.or_eq_true, beq_iff_eq, List.any_eq_true] at h1
    exact ⟨h1.1, fun h0 => h1.2.resolve_left (by omega)⟩
section
variable {ks l : List Int} (v : TVal ks) (h : tabOk ks l = true)
def leadsC (ks l : List Int) (p : Nat → Bool) (s : List Int) : List Int :=
  if fullP p ks s then [] else ((List.range ks.length).filter fun w => decide (tabT ks l (visit (upP p s) w) < 0)).map fun (w : Nat) => (w : Int)
include v h in
theorem leads_tab {p : Nat → Bool} {s : List Int} (hs : isSt ks s = true) : leadsL ks p s = leadsC ks l p s := by
  unfold leadsL leadsC
  cases hf : fullP p ks s with
  | true => rfl
  | false =>
    simp only [Bool.false_eq_true, if_false]
    congr 1
    refine List.filter_congr fun w hw => ?_
    rw [tab_row v h _ (visit_st (up_st hs hf) (fun i hi => by have := v.at_ i hi; omega) w)]
def lastC (ks l : List Int) : Nat → List Int → List Int
  | 0, _ => []
  | r + 1, s => match (List.range ks.length).find? fun w => decide (tabT ks l (visit (upP allW s) w) = r) with
    | some w => (w : Int) :: lastC ks l r (visit (upP allW s) w)
    | none => []
include v h in
theorem last_tab : ∀ {r : Nat} {s : List Int}, isSt ks s = true → Rk (nxS ks) s r → lastG ks r s = lastC ks l r s
  | 0, _, _, _ => rfl
  | r + 1, s, hs, hr => by
    obtain ⟨w, hw, hf, hk, e, _⟩ := lastG_step hr
    have hvs : ∀ u, isSt ks (visit (upP allW s) u) = true := fun u => visit_st (up_st hs hf) (fun i hi => by have := v.at_ i hi; omega) u
    rw [lastG, lastC]
    have ef : (fun w => decide (rowOf (nxS ks) (visit (upP allW s) w) = r)) = fun w => decide (tabT ks l (visit (upP allW s) w) = r) := by
      funext u
      rw [tab_row v h _ (hvs u)]
    rw [ef]
    cases hfd : (List.range ks.length).find? fun w => decide (tabT ks l (visit (upP allW s) w) = r) with
    | none => rfl
    | some u =>
      have hu := List.find?_some hfd
      simp only [decide_eq_true_eq] at hu
      have hru : Rk (nxS ks) (visit (upP allW s) u) r := by
        have e2 := tab_row v h _ (hvs u)
        rw [hu] at e2
        rcases rowOf_cases (nxS ks) (visit (upP allW s) u) with ⟨e3, _⟩ | ⟨q, e3, hq⟩
        · omega
        · have : q = r := by omega
          rw [← this]; exact hq
      simp only [last_tab (hvs u) hru]
include v h in
theorem cnt_tab : cntN ks = ((List.range (nSt ks)).filter fun (i : Nat) => decide (tabT ks l (stOf ks i) < 0)).length := by
  unfold cntN rkN
  congr 1
  refine List.filter_congr fun i _ => ?_
  rw [tab_row v h _ (st_st v.nn)]
end
end Go.Proofs.Ytndgaklcnhoddaa
namespace Go.Proofs.Ytndgaklcnhoddaa
def hH : List Int := [2, 3]
def hJ : List Int := [2, 3, 6]
def hK : List Int := [1, 1]
def tH : List Int := [-1, -1, -1, 0, -1, -1, 1, 0, 0, 0, 0, 0]
def tJ : List Int := [8, 8, 8, 8, 8, 8, 0, 7, 6, 5, 4, 2, 2, 0, 7, 6, 4, 4, 2, 1, 0, 0, 0, 0, 0, 0, 0, 0, 7, 6, 5, 3, 3, 1, 0, 7, 5, 5, 3, 2, 1, 0, 1, 1, 1, 1, 1, 1, 0, 0, 0, 0, 0, 0, 0, 0, 0, 0, 0, 0, 0, 0, 0, 0, 0, 0, 0, 0, 0, 0, 0, 0, 0, 0, 0, 0, 0, 0, 0, 0, 0, 0, 0, 0]
theorem vH : TVal hH := tval_of (by decide +kernel)
theorem vJ : TVal hJ := tval_of (by decide +kernel)
theorem vK : TVal hK := tval_of (by decide +kernel)
theorem okH : tabOk hH tH = true := by decide +kernel
theorem okJ : tabOk hJ tJ = true := by decide +kernel
theorem v1 : turnErr hH [1, 2] [0] 1 = 0 ∧ turnL hH [1, 2] [0] 1 = [2, 0] ∧ turnN hH [1, 2] [0] 1 = 2 := ⟨by decide +kernel, by decide +kernel, by decide +kernel⟩
theorem v2 : playErr hH [0, 0] [0, 1, 0] = 0 ∧ playL hH [0, 0] [0, 1, 0] = [0, 1] ∧ playN hH [0, 0] [0, 1, 0] = 3 := ⟨by decide +kernel, by decide +kernel, by decide +kernel⟩
theorem v3 : playErr hH [0, 0] [0, 0, 0, 0] = 17 ∧ playL hH [0, 0] [0, 0, 0, 0] = [] ∧ playN hH [0, 0] [0, 0, 0, 0] = 3 := ⟨by decide +kernel, by decide +kernel, by decide +kernel⟩
theorem v4 : circErr hH [0, 0, 1] = 0 := by decide +kernel
theorem circleErr_of {ks : List Int} (v : TVal ks) {t : Int} (h : rowOf (nxS ks) (zeroS ks) = t) : circleErr ks = if t < 0 then 0 else 17 := by
  unfold circleErr; rw [if_neg (fun e => e (tchk_of v)), h]
theorem v5 : circleErr hH = 0 := by
  rw [circleErr_of vH (tab_row vH okH _ (by decide +kernel))]; decide +kernel
theorem v6 : circleErr hJ = 17 := by
  rw [circleErr_of vJ (tab_row vJ okJ _ (by decide +kernel))]; decide +kernel
/-- the shortest circle of a hall, when one is known and shorter ones are not -/
theorem short_two {ks : List Int} (v : TVal ks) {t u : List Int} (ht : isSt ks t = true) (h1 : u ∈ nxS ks t) (h2 : t ∈ nxS ks u) (hn : ((List.range (nSt ks)).all fun (i : Nat) => !(nxS ks (stOf ks i)).contains (stOf ks i)) = true) : IsShort ks 2 := by
  refine ⟨by omega, ⟨t, ht, u, h1, t, h2, rfl⟩, fun s k hs hk hw => ?_⟩
  rcases Nat.lt_or_ge k 2 with h | h
  · obtain rfl : k = 1 := by omega
    obtain ⟨x, hx, rfl⟩ := hw
    have hb := numS_bd v.nn hs
    have hN := nSt_eq v
    have h3 := List.all_eq_true.1 hn (numS ks x).toNat (List.mem_range.2 (by omega))
    have e : (((numS ks x).toNat : Nat) : Int) = numS ks x := by omega
    simp only [e, st_num v.nn hs] at h3
    have h4 : (nxS ks x).contains x = true := List.contains_iff_mem.2 hx
    rw [h4] at h3; cases h3
  · exact h
theorem v5s : IsShort hH 2 := short_two (t := [0, 1]) (u := [1, 0]) vH (by decide +kernel) (by decide +kernel) (by decide +kernel) (by decide +kernel)
theorem v7 : doomErr hK [0, 0] [([0, 1], 1), ([1, 0], 1), ([0, 0], 2)] = 0 := by decide +kernel
theorem doomRErr_of {ks s : List Int} (v : TVal ks) (hs : isSt ks s = true) {t : Int} (h : rowOf (nxS ks) s = t) : doomRErr ks s = if t < 0 then 5 else 0 := by
  unfold doomRErr; rw [if_neg (fun e => e (stErr_of v hs)), h]
theorem v8 : doomRErr hJ [0, 0, 0] = 0 := by
  rw [doomRErr_of vJ (by decide +kernel) (tab_row vJ okJ _ (by decide +kernel))]; decide +kernel
theorem next_of {ks l s : List Int} (v : TVal ks) (h : tabOk ks l = true) (hs : isSt ks s = true) : nextErr ks s = (if leadsC ks l allW s = [] then 17 else 0) ∧ nextL ks s = leadsC ks l allW s := by
  unfold nextErr nextL
  have h0 : ¬ stErr ks s ≠ 0 := fun e => e (stErr_of v hs)
  rw [if_neg h0, if_neg h0, leads_tab v h hs]
  exact ⟨rfl, rfl⟩
theorem v9 : nextErr hH [0, 2] = 0 ∧ nextL hH [0, 2] = [1] := by
  obtain ⟨a, b⟩ := next_of vH okH (s := [0, 2]) (by decide +kernel)
  rw [a, b]; exact ⟨by decide +kernel, by decide +kernel⟩
def waitC (ks l s : List Int) : Option (List Int) := (subsAll ks.length).find? fun m => !(leadsC ks l (notIn m) s).isEmpty
theorem wait_of {ks l s : List Int} (v : TVal ks) (h : tabOk ks l = true) (hs : isSt ks s = true) : waitErr ks s = (if (waitC ks l s).isSome then 0 else 17) ∧ waitLL ks s = (waitC ks l s).getD [] := by
  have e : waitL ks s = waitC ks l s := by
    unfold waitL waitC
    congr 1
    funext m
    rw [leads_tab v h hs]
  unfold waitErr waitLL
  have h0 : ¬ stErr ks s ≠ 0 := fun e => e (stErr_of v hs)
  rw [if_neg h0, if_neg h0, e]
  exact ⟨rfl, rfl⟩
theorem v10 : waitErr hH [2, 2] = 0 ∧ waitLL hH [2, 2] = [0, 1] := by
  obtain ⟨a, b⟩ := wait_of vH okH (s := [2, 2]) (by decide +kernel)
  rw [a, b]; exact ⟨by decide +kernel, by decide +kernel⟩
theorem v11 : waitErr hH [2, 3] = 17 ∧ waitLL hH [2, 3] = [] := by
  obtain ⟨a, b⟩ := wait_of vH okH (s := [2, 3]) (by decide +kernel)
  rw [a, b]; exact ⟨by decide +kernel, by decide +kernel⟩
theorem lasts_of {ks l s : List Int} (v : TVal ks) (h : tabOk ks l = true) (hs : isSt ks s = true) : lastsErr ks s = (if tabT ks l s < 0 then 5 else 0) ∧ lastsL ks s = if tabT ks l s < 0 then [] else lastC ks l (tabT ks l s).toNat s := by
  have e := tab_row v h s hs
  have he : lastsErr ks s = (if tabT ks l s < 0 then 5 else 0) := by
    unfold lastsErr
    rw [if_neg (fun e => e (stErr_of v hs)), e]
  refine ⟨he, ?_⟩
  unfold lastsL
  rw [he]
  by_cases ht : tabT ks l s < 0
  · rw [if_pos ht, if_pos ht, if_neg (by decide)]
  · rw [if_neg ht, if_neg ht, if_pos rfl, e]
    refine last_tab v h hs ?_
    rcases rowOf_cases (nxS ks) s with ⟨e3, _⟩ | ⟨q, e3, hq⟩
    · omega
    · have : (tabT ks l s).toNat = q := by omega
      rw [this]; exact hq
theorem v12 : lastsErr hJ [0, 0, 0] = 0 ∧ lastsL hJ [0, 0, 0] = [2, 0, 1, 0, 1, 0, 2, 0] := by
  obtain ⟨a, b⟩ := lasts_of vJ okJ (s := [0, 0, 0]) (by decide +kernel)
  rw [a, b]; exact ⟨by decide +kernel, by decide +kernel⟩
theorem count_of {ks l : List Int} (v : TVal ks) (h : tabOk ks l = true) : countErr ks = ((((List.range (nSt ks)).filter fun (i : Nat) => decide (tabT ks l (stOf ks i) < 0)).length : Int), 0) := by
  unfold countErr; rw [if_neg (fun e => e (tchk_of v)), cnt_tab v h]
theorem v13 : countErr hH = (5, 0) := by
  rw [count_of vH okH]; decide +kernel
end Go.Proofs.Ytndgaklcnhoddaa
namespace Go.Proofs.Ytndgaklcnhoddaa
open Go.RowKit Go.Shelf
def right1 (ks : List Int) (l : List (List Int × Int)) (d : List Int × Int) : Bool := fullP allW ks d.1 || (List.range ks.length).all fun w => covB l (visit (upP allW d.1) w) d.2
theorem right_all (ks : List Int) (l : List (List Int × Int)) : rightB ks l = l.all (right1 ks l) := rfl
theorem cov_big {l : List (List Int × Int)} {s : List Int} {a b : Int} (h : ∀ d ∈ l, d.2 < a ∧ d.2 < b) : covB l s a = covB l s b := by
  unfold covB
  rw [Bool.eq_iff_iff, List.any_eq_true, List.any_eq_true]
  constructor
  · rintro ⟨d, hd, e⟩
    refine ⟨d, hd, ?_⟩
    rw [decide_eq_true (h d hd).2]
    rw [decide_eq_true (h d hd).1] at e
    exact e
  · rintro ⟨d, hd, e⟩
    refine ⟨d, hd, ?_⟩
    rw [decide_eq_true (h d hd).1]
    rw [decide_eq_true (h d hd).2] at e
    exact e
set_option maxRecDepth 100000 in
set_option maxHeartbeats 8000000 in
theorem checkDoomR_any (ks s : List Int) (l : List (List Int × Int)) (kv sv lv : Value) (w : World) (hv : IsInts w .i64 kv ks) (hs : IsInts w .i64 sv s) (hl : IsStps w lv l) :
    Calls Try.prog 37 #[.agg #[kv], sv, lv] w fun e W => e = .returned (.int .i64 (doomErr ks s l)) ∧ Ext w W := by
  obtain ⟨sa, cap, rfl, h1, h2, -⟩ := hv.spec
  obtain ⟨ra, rcap, rfl, h3, h4, -⟩ := hs.spec
  obtain ⟨la, lcap, rfl, h5, h6⟩ := hl.spec
  have HV := Lib.hid hv
  have HP0 := Lib.hid hs
  have HL0 := Lib.hid hl
  clear hv hs hl
  go_enter Try.func37, Try.ntmps37
  go_upto_region 1 with (fail)
  obtain ⟨W0, hW0⟩ : ∃ W0, W0 = w.alloc (.cells #[.slice sa ks.length cap] 24) := ⟨_, rfl⟩
  have hE : Ext w W0 := by rw [hW0]; exact (by repeat (first | exact Below.refl _ _ | refine Ext.al ?_ _ | refine Ext.dr ?_ | refine Ext.drN ?_ _ | refine Ext.gr ?_ _ | refine Ext.set ?_ (by simp) _ | (refine Ext.trans' ?_ (by assumption))))
  have k0 : W0.cell? ⟨w.heap.size, 0, none⟩ = some (.slice sa ks.length cap) := by rw [hW0]; simp [go_sem]
  have hz : w.heap.size < W0.heap.size := World.block_lt_of_cell? _ _ k0
  have HS := Lib.hid (HV.out.ext hE)
  have HW := Lib.hid hE
  rw [← hW0]
  clear hW0 HV
  have HP := Lib.hid (HP0.out.ext hE)
  have HL := Lib.hid (HL0.out.ext hE)
  clear hE HL0 HP0
  obtain ⟨er, her⟩ : ∃ er, er = stErr ks s := ⟨_, rfl⟩
  have c1 := fun W h1 h2 => statedR_any ks s (.slice sa ks.length cap) (.slice ra s.length rcap) W h1 h2
  simp only [← her] at c1
  have C1 := Lib.hid c1
  have HER := Lib.hid her
  clear c1 her



  by_cases hst : er = 0
  rotate_left
  · have e1 : (er == 0) = false := by simpa using hst
    have e2 : (er != 0) = true := by simpa using hst
    have HST := Lib.hid hst
    clear hst

    go_wp2_with fail
    refine callW (W0 := W0) (g := ⟨W0, Below.refl _ _⟩) (by exact (by repeat (first | exact Below.refl _ _ | refine Ext.al ?_ _ | refine Ext.dr ?_ | refine Ext.drN ?_ _ | refine Ext.gr ?_ _ | refine Ext.set ?_ (by simp) _ | (refine Ext.trans' ?_ (by assumption))))) (C1.out _ (HS.out.ext (by exact (by repeat (first | exact Below.refl _ _ | refine Ext.al ?_ _ | refine Ext.dr ?_ | refine Ext.drN ?_ _ | refine Ext.gr ?_ _ | refine Ext.set ?_ (by simp) _ | (refine Ext.trans' ?_ (by assumption)))))) (HP.out.ext (by exact (by repeat (first | exact Below.refl _ _ | refine Ext.al ?_ _ | refine Ext.dr ?_ | refine Ext.drN ?_ _ | refine Ext.gr ?_ _ | refine Ext.set ?_ (by simp) _ | (refine Ext.trans' ?_ (by assumption))))))) fun g1 hgr => ?_
    clear hgr
    go_wp2_with fail
    refine callW (W0 := W0) (g := g1) (by exact (by repeat (first | exact Below.refl _ _ | refine Ext.al ?_ _ | refine Ext.dr ?_ | refine Ext.drN ?_ _ | refine Ext.gr ?_ _ | refine Ext.set ?_ (by simp) _ | (refine Ext.trans' ?_ (by assumption))))) (C1.out _ (HS.out.ext (by exact (by repeat (first | exact Below.refl _ _ | refine Ext.al ?_ _ | refine Ext.dr ?_ | refine Ext.drN ?_ _ | refine Ext.gr ?_ _ | refine Ext.set ?_ (by simp) _ | (refine Ext.trans' ?_ (by assumption)))))) (HP.out.ext (by exact (by repeat (first | exact Below.refl _ _ | refine Ext.al ?_ _ | refine Ext.dr ?_ | refine Ext.drN ?_ _ | refine Ext.gr ?_ _ | refine Ext.set ?_ (by simp) _ | (refine Ext.trans' ?_ (by assumption))))))) fun g2 hgr => ?_
    clear hgr
    go_wp2_with fail
    go_ret
    exact ⟨ret_int (by unfold doomErr; rw [if_pos (by rw [← HER.out]; exact HST.out), HER.out]), HW.out.trans' (grow_below W0 _)⟩

  · obtain ⟨v, hsi⟩ := stErr_ok (HER.out.symm.trans hst)
    have HST := Lib.hid (HER.out.symm.trans hst)
    have V := Lib.hid v
    have HIS := Lib.hid hsi
    have n1 := v.n1
    have n5 := v.n5
    subst hst
    clear v hsi
    go_wp2_with fail
    refine callW (W0 := W0) (g := ⟨W0, Below.refl _ _⟩) (by exact (by repeat (first | exact Below.refl _ _ | refine Ext.al ?_ _ | refine Ext.dr ?_ | refine Ext.drN ?_ _ | refine Ext.gr ?_ _ | refine Ext.set ?_ (by simp) _ | (refine Ext.trans' ?_ (by assumption))))) (C1.out _ (HS.out.ext (by exact (by repeat (first | exact Below.refl _ _ | refine Ext.al ?_ _ | refine Ext.dr ?_ | refine Ext.drN ?_ _ | refine Ext.gr ?_ _ | refine Ext.set ?_ (by simp) _ | (refine Ext.trans' ?_ (by assumption)))))) (HP.out.ext (by exact (by repeat (first | exact Below.refl _ _ | refine Ext.al ?_ _ | refine Ext.dr ?_ | refine Ext.drN ?_ _ | refine Ext.gr ?_ _ | refine Ext.set ?_ (by simp) _ | (refine Ext.trans' ?_ (by assumption))))))) fun g3 hgr => ?_
    clear hgr
    by_cases hl1 : 1000 < l.length
    · have hl2 : decide ((1000 : Int) < (l.length : Int)) = true := decide_eq_true (by omega)
      have HL1 := Lib.hid hl1
      clear hl1
      go_wp2_with fail
      go_ret
      exact ⟨ret_int (by unfold doomErr; rw [if_neg (fun h => h HST.out), if_pos HL1.out]), HW.out.trans' (grow_below W0 _)⟩
    have hl2 : decide ((1000 : Int) < (l.length : Int)) = false := decide_eq_false (by omega)
    have HL1 := Lib.hid hl1
    have hl1' : l.length ≤ 1000 := by omega
    clear hl1
    go_upto_region 5 with (fail)
    obtain ⟨G0, hG0⟩ : ∃ zz9, zz9 = (grow W0 g3) := ⟨_, rfl⟩
    have eG0 : Ext W0 G0 := by rw [hG0]; exact (by repeat (first | exact Below.refl _ _ | refine Ext.al ?_ _ | refine Ext.dr ?_ | refine Ext.drN ?_ _ | refine Ext.gr ?_ _ | refine Ext.set ?_ (by simp) _ | (refine Ext.trans' ?_ (by assumption))))
    replace k0 := cell_ext eG0 k0
    replace HS := Lib.hid (HS.out.ext eG0)
    replace HP := Lib.hid (HP.out.ext eG0)
    replace HL := Lib.hid (HL.out.ext eG0)
    replace HW := Lib.hid (HW.out.trans' eG0)
    rw [← hG0]
    replace hz := World.block_lt_of_cell? _ _ k0
    clear hG0 eG0
    go_wp2_with fail
    go_loopw [7] (fun i W => ∃ k : Nat, k ≤ l.length ∧ i = .int .i64 k ∧ (∀ x ∈ l.take k, badStp ks x = false) ∧ Ext G0 W) (fun i _ => l.length - (intOf i).toNat)
    case atStart => exact ⟨0, by omega, rfl, by simp, Below.refl _ _⟩
    case round =>
      obtain ⟨k, hk, rfl, hno, hE⟩ := hrel
      have HNO := Lib.hid hno
      have HE := Lib.hid hE
      replace k0 := cell_ext hE k0
      replace hz := World.block_lt_of_cell? _ _ k0
      clear hno
      by_cases hlt : k < l.length
      · have hki : (k : Int) < (l.length : Int) := by omega
        obtain ⟨b, off, rfl, HC⟩ := HL.out.at_all (by omega)
        obtain ⟨xa, xc, hxc⟩ := HC k hlt
        obtain ⟨hqi, d0, d1⟩ := hxc wr hE
        have hbz := World.block_lt_of_cell? _ _ d0
        simp only at hbz
        have hbad := fun h => stp_bad (ks := ks) (s := s) hlt HST.out HL1.out h
        have hnx := fun h => take_snoc_mem hlt (p := fun x => badStp ks x = false) HNO.out h
        obtain ⟨d, hd⟩ : ∃ d, d = l[k] := ⟨_, rfl⟩
        rw [← hd] at d0 d1 hqi hnx hbad
        obtain ⟨t, left⟩ := d
        simp only at d0 d1 hqi hnx hbad
        obtain ⟨er, her⟩ : ∃ er, er = stErr ks t := ⟨_, rfl⟩
        have c2 := fun W h1 h2 => statedR_any ks t (.slice sa ks.length cap) (.slice xa t.length xc) W h1 h2
        simp only [← her] at c2
        have C2 := Lib.hid c2
        have HT := Lib.hid her
        have HQ := Lib.hid hqi
        have HNX := Lib.hid hnx
        have HBAD := Lib.hid hbad
        have HSr := Lib.hid (HS.out.ext hE)
        clear hE HC hxc hd hqi hnx hbad c2 her
        by_cases ht : er = 0
        rotate_left
        · have e1 : (er == 0) = false := by simpa using ht
          have e2 : (er != 0) = true := by simpa using ht
          have HFIN := Lib.hid (HBAD.out (by unfold badStp; rw [← HT.out]; simp [ht]))
          clear ht
          go_upto_region 8 with (fail)
          refine wp_region_grow (by kernel_rfl) (by kernel_rfl) ?_
          repeat (first | go_big_quiet_step ((go_at_call 52; exact grow_call (C2.out _ (HSr.out.ext (grow_below _ _)) (HQ.out.ext (grow_below _ _))))) | quiet_step ((go_at_call 52; exact grow_call (C2.out _ (HSr.out.ext (grow_below _ _)) (HQ.out.ext (grow_below _ _))))))
          refine wpQuiet_nil ?_
          rintro _ ⟨g, rfl⟩
          go_wp2_with fail
          go_ret
          exact ⟨ret_int HFIN.out.symm, HW.out.trans' (HE.out.trans' (grow_below _ _))⟩
        · subst ht
          by_cases hb1 : left < 1
          · have f1 : decide (left < 1) = true := decide_eq_true hb1
            have HFIN := Lib.hid (HBAD.out (by unfold badStp; simp [hb1]))
            clear hb1
            go_upto_region 8 with (fail)
            refine wp_region_grow (by kernel_rfl) (by kernel_rfl) ?_
            repeat (first | go_big_quiet_step ((go_at_call 52; exact grow_call (C2.out _ (HSr.out.ext (grow_below _ _)) (HQ.out.ext (grow_below _ _))))) | quiet_step ((go_at_call 52; exact grow_call (C2.out _ (HSr.out.ext (grow_below _ _)) (HQ.out.ext (grow_below _ _))))))
            refine wpQuiet_nil ?_
            rintro _ ⟨g, rfl⟩
            go_wp2_with fail
            go_ret
            exact ⟨ret_int HFIN.out.symm, HW.out.trans' (HE.out.trans' (grow_below _ _))⟩
          have f1 : decide (left < 1) = false := decide_eq_false hb1
          by_cases hb2 : 1099511627776 < left
          · have f2 : decide (1099511627776 < left) = true := decide_eq_true hb2
            have HFIN := Lib.hid (HBAD.out (by unfold badStp; simp [hb2]))
            clear hb1 hb2
            go_upto_region 8 with (fail)
            refine wp_region_grow (by kernel_rfl) (by kernel_rfl) ?_
            repeat (first | go_big_quiet_step ((go_at_call 52; exact grow_call (C2.out _ (HSr.out.ext (grow_below _ _)) (HQ.out.ext (grow_below _ _))))) | quiet_step ((go_at_call 52; exact grow_call (C2.out _ (HSr.out.ext (grow_below _ _)) (HQ.out.ext (grow_below _ _))))))
            refine wpQuiet_nil ?_
            rintro _ ⟨g, rfl⟩
            go_wp2_with fail
            go_ret
            exact ⟨ret_int HFIN.out.symm, HW.out.trans' (HE.out.trans' (grow_below _ _))⟩
          have f2 : decide (1099511627776 < left) = false := decide_eq_false hb2
          have HG := Lib.hid (HNX.out (by unfold badStp; rw [← HT.out]; simp [hb1, hb2]))
          clear hb1 hb2
          go_upto_region 8 with (fail)
          refine wp_region_grow (by kernel_rfl) (by kernel_rfl) ?_
          repeat (first | go_big_quiet_step ((go_at_call 52; exact grow_call (C2.out _ (HSr.out.ext (grow_below _ _)) (HQ.out.ext (grow_below _ _))))) | quiet_step ((go_at_call 52; exact grow_call (C2.out _ (HSr.out.ext (grow_below _ _)) (HQ.out.ext (grow_below _ _))))))
          refine wpQuiet_nil ?_
          rintro _ ⟨g, rfl⟩
          go_wp2_with fail
          go_roundw
          case rel => exact ⟨k + 1, by omega, by go_num, HG.out, HE.out.trans' (grow_below _ _)⟩
          case measure => simp [intOf]; omega
      · have hkl : k = l.length := by omega
        have hki : ¬ ((k : Int) < (l.length : Int)) := by omega
        have hno := HNO.out
        rw [hkl, List.take_length] at hno
        have hstd : ∀ d ∈ l, isSt ks d.1 = true ∧ 1 ≤ d.2 ∧ d.2 ≤ 1099511627776 := fun d hd => by
          have := hno d hd
          unfold badStp at this
          simp at this
          exact ⟨(stErr_ok this.1.1).2, by omega, by omega⟩
        have hany : ¬ (l.any fun d => decide (stErr ks d.1 ≠ 0) || decide (d.2 < 1) || decide (1099511627776 < d.2)) = true := fun h => by
          obtain ⟨d, hd, h⟩ := List.any_eq_true.1 h
          have h2 := hno d hd
          unfold badStp at h2
          rw [h2] at h; cases h
        have hde : doomErr ks s l = if rightB ks l = true ∧ covB l s 2199023255552 = true then 0 else 14 := by
          unfold doomErr
          rw [if_neg (fun e => e HST.out), if_neg HL1.out, if_neg hany, cov_big (a := 1099511627777) (b := 2199023255552) fun d hd => by have := (hstd d hd).2; omega]
        have HDE := Lib.hid hde
        have HSTD := Lib.hid hstd
        have HS2 := Lib.hid (HS.out.ext hE)
        have HL2 := Lib.hid (HL.out.ext hE)
        have HP2 := Lib.hid (HP.out.ext hE)
        have HR := Lib.hid (HW.out.trans' hE)
        clear hkl hno hstd hany hde hE HS HP HL HW HNO HE
        obtain ⟨U, hU⟩ : ∃ U, U = wr := ⟨_, rfl⟩
        subst hU
        go_wp2_with fail
        go_loopw [8] (fun i W => ∃ k : Nat, k ≤ l.length ∧ i = .int .i64 k ∧ (∀ x ∈ l.take k, right1 ks l x = true) ∧ Ext U W) (fun i _ => l.length - (intOf i).toNat)
        case atStart => exact ⟨0, by omega, rfl, by simp, Below.refl _ _⟩
        case round =>
          obtain ⟨m, hm, rfl, hno, hE⟩ := hrel
          have HNO := Lib.hid hno
          have HE := Lib.hid hE
          have k1 := cell_ext hE k0
          have hz1 := World.block_lt_of_cell? _ _ k1
          simp only at hz1
          clear hno
          by_cases hlt : m < l.length
          · have hmi : (m : Int) < (l.length : Int) := by omega
            obtain ⟨b, off, rfl, HC⟩ := HL2.out.at_all (by omega)
            obtain ⟨xa, xc, hxc⟩ := HC m hlt
            obtain ⟨hqi, d0, d1⟩ := hxc wr hE
            have hbz := World.block_lt_of_cell? _ _ d0
            simp only at hbz
            have hdd := HSTD.out l[m] (List.getElem_mem hlt)
            have hnx := fun h => take_snoc_mem hlt (p := fun x => right1 ks l x = true) HNO.out h
            have hbad : right1 ks l l[m] = false → rightB ks l = false := fun h => by
              cases e : rightB ks l with
              | false => rfl
              | true =>
                rw [right_all] at e
                rw [List.all_eq_true.1 e _ (List.getElem_mem hlt)] at h; cases h
            obtain ⟨d, hd⟩ : ∃ d, d = l[m] := ⟨_, rfl⟩
            rw [← hd] at d0 d1 hqi hnx hbad hdd
            obtain ⟨t, left⟩ := d
            simp only at d0 d1 hqi hnx hbad hdd
            have HQ := Lib.hid hqi
            have HNX := Lib.hid hnx
            have HBAD := Lib.hid hbad
            have HTS := Lib.hid hdd.1
            have hleft := hdd.2
            have HXA := Lib.hid (fun W h => (hxc W h).2)
            have HSr := Lib.hid (HS2.out.ext hE)
            clear hE HC hxc hd hqi hnx hbad hdd
            go_upto_region 13 with (fail)
            obtain ⟨Y, hY⟩ : ∃ Y, Y = wr := ⟨_, rfl⟩
            subst hY
            obtain ⟨ok, hok⟩ : ∃ ok, ok = !fullP allW ks (t) := ⟨_, rfl⟩
            obtain ⟨XL, hXL⟩ : ∃ XL, XL = (if fullP allW ks (t) then [] else upP allW (t)) := ⟨_, rfl⟩
            have HOKX := Lib.hid hok
            have HXLX := Lib.hid hXL
            clear hok hXL
            refine wp_region_rove (Y.heap.size) (Nat.le_refl _)
              [sqV (.agg #[.slice sa ks.length cap]),
               sqV (.slice (some ⟨b, off, none⟩) l.length lcap),
               sqV (.int .i64 m),
               sqV (.pointer (some ⟨b, off + m * 2, none⟩)),
               sqV (.pointer (some ⟨b, off + m * 2, none⟩)),
               sqV (.slice xa t.length xc),
               sqV (.agg #[.slice sa ks.length cap]),
               sqW (fun v W => IsInts W .i64 v (upL ks.length)) (fun _ _ _ h e => IsInts.ext e h),
               sqW (fun v W => ∃ r, v = .tuple #[r, .bool ok] ∧ IsInts W .i64 r XL) (fun _ _ _ ⟨r, h1, h2⟩ e => ⟨r, h1, IsInts.ext e h2⟩),
               sqW (fun v W => ∃ r, v = .tuple #[r, .bool ok] ∧ IsInts W .i64 r XL) (fun _ _ _ ⟨r, h1, h2⟩ e => ⟨r, h1, IsInts.ext e h2⟩),
               sqW (fun v W => IsInts W .i64 v XL) (fun _ _ _ h e => IsInts.ext e h),
               sqV (.bool ok),
               sqW (fun v W => IsInts W .i64 v XL) (fun _ _ _ h e => IsInts.ext e h),
               sqV (.bool ok)]
              [true, true, true, true, true, true, true, false, false, false, false, true, false, true] [false, false, false, false, false, false, false, false, false, false, false, false, false, false] [true, true, true, true, true, true, true, true, true, true, true, true, true, true] [true, true, true, true, true, true, true, true, true, true, true, true, true, true]
              (by kernel_rfl) (by kernel_rfl) (by decide +kernel) (by decide +kernel) (by decide +kernel) rfl ⟨rfl, rfl⟩ ⟨?s0, ?s1, ?s2, ?s3, ?s4, ?s5, ?s6, ?s7, ?s8, ?s9, ?s10, ?s11, ?s12, ?s13, trivial⟩ [some 59, some 60, some 61, some 62, some 63, some 64, some 65, some 66, some 67, some 58, some 68, some 69, some 9, some 10] rfl rfl ?send
            case s0 =>
              intro val ρ W hE hz hd hA hx
              have o0 : ρ (.tmp 3) = .pointer (some ⟨w.heap.size, 0, none⟩) := hA.old 3 (by decide)
              have f_k1 := cell_below hE (by simp only; omega) k1
              clear hd
              exact runq_val (W' := W) (by simp [execOp, o0, f_k1, go_sem]) (Below.refl _ _) rfl
            case s1 =>
              intro val ρ W hE hz hd hA hx
              have o0 : ρ (.tmp 2) = .slice (some ⟨b, off, none⟩) l.length lcap := hA.old 2 (by decide)
              clear hd
              exact runq_val (W' := W) (by simp [execOp, o0, go_sem]) (Below.refl _ _) rfl
            case s2 =>
              intro val ρ W hE hz hd hA hx
              have o0 : ρ (.tmp 8) = .int .i64 m := hA.old 8 (by decide)
              clear hd
              exact runq_val (W' := W) (by simp [execOp, o0, go_sem]) (Below.refl _ _) rfl
            case s3 =>
              intro val ρ W hE hz hd hA hx
              have d1 : ρ (.tmp 60) = .slice (some ⟨b, off, none⟩) l.length lcap := (hA.dep 1 (by decide) 60 rfl).trans (hd 1 (by decide))
              have d2 : ρ (.tmp 61) = .int .i64 m := (hA.dep 2 (by decide) 61 rfl).trans (hd 2 (by decide))
              clear hd
              exact runq_val (W' := W) (by simp [execOp, d1, d2, hmi, go_sem]) (Below.refl _ _) rfl
            case s4 =>
              intro val ρ W hE hz hd hA hx
              have d3 : ρ (.tmp 62) = .pointer (some ⟨b, off + m * 2, none⟩) := (hA.dep 3 (by decide) 62 rfl).trans (hd 3 (by decide))
              clear hd
              exact runq_val (W' := W) (by simp [execOp, d3, go_sem]) (Below.refl _ _) rfl
            case s5 =>
              intro val ρ W hE hz hd hA hx
              have d4 : ρ (.tmp 63) = .pointer (some ⟨b, off + m * 2, none⟩) := (hA.dep 4 (by decide) 63 rfl).trans (hd 4 (by decide))
              have f_d0 := cell_below hE (by simp only; omega) d0
              clear hd
              exact runq_val (W' := W) (by simp [execOp, d4, f_d0, go_sem]) (Below.refl _ _) rfl
            case s6 =>
              intro val ρ W hE hz hd hA hx
              have o0 : ρ (.tmp 3) = .pointer (some ⟨w.heap.size, 0, none⟩) := hA.old 3 (by decide)
              have f_k1 := cell_below hE (by simp only; omega) k1
              clear hd
              exact runq_val (W' := W) (by simp [execOp, o0, f_k1, go_sem]) (Below.refl _ _) rfl
            case s13 =>
              intro val ρ W hE hz hd hA hx
              have d11 : ρ (.tmp 69) = .bool ok := (hA.dep 11 (by decide) 69 rfl).trans (hd 11 (by decide))
              clear hd
              exact runq_val (W' := W) (by simp [execOp, d11, go_sem]) (Below.refl _ _) rfl
            case s7 =>
              intro val ρ W hE hz hd hA hx
              have d6 : ρ (.tmp 65) = .agg #[.slice sa ks.length cap] := (hA.dep 6 (by decide) 65 rfl).trans (hd 6 (by decide))
              clear hd
              refine runq_call 56 _ _ rfl #[.agg #[.slice sa ks.length cap]] (hA.func _) (by simp [d6]) (fun args W => Try.call56 args W) ((allR_any ks _ W (HSr.out.ext hE) (by have := (V).out.n5; omega)).mono ?_)
              rintro e w' ⟨v, rfl, hb, hi⟩
              exact ⟨_, rfl, hb, hi⟩
            case s8 =>
              intro val ρ W hE hz hd hA hx
              have d0 : ρ (.tmp 59) = .agg #[.slice sa ks.length cap] := (hA.dep 0 (by decide) 59 rfl).trans (hd 0 (by decide))
              have ds : ρ (.tmp 64) = .slice xa t.length xc := (hA.dep 5 (by decide) 64 rfl).trans (hd 5 (by decide))
              have qa : IsInts W .i64 (val 7) (upL ks.length) := hd 7 (by decide)
              have da : ρ (.tmp 66) = val 7 := hA.dep 7 (by decide) 66 rfl
              clear hd
              refine runq_call 49 _ _ rfl #[.agg #[.slice sa ks.length cap], .slice xa t.length xc, val 7] (hA.func _) (by simp [d0, ds, da]) (fun args W => Try.call49 args W) ((pulledA_any ks (t) _ _ _ W (HSr.out.ext hE) (HQ.out.ext hE) qa (V).out (HTS).out).mono ?_)
              rintro e w' ⟨v, rfl, hb, hi⟩
              exact ⟨_, rfl, hb, v, by rw [HOKX.out], by rw [HXLX.out]; exact hi⟩
            case s9 =>
              intro val ρ W hE hz hd hA hx
              obtain ⟨r, h1, h2⟩ : ∃ r, val 8 = .tuple #[r, .bool ok] ∧ IsInts W .i64 r XL := hd 8 (by decide)
              have dd : ρ (.tmp 67) = .tuple #[r, .bool ok] := (hA.dep 8 (by decide) 67 rfl).trans h1
              exact runq_val (W' := W) (v := .tuple #[r, .bool ok]) (by simp [execOp, dd, go_sem]) (Below.refl _ _) ⟨r, rfl, h2⟩
            case s10 =>
              intro val ρ W hE hz hd hA hx
              obtain ⟨r, h1, h2⟩ : ∃ r, val 9 = .tuple #[r, .bool ok] ∧ IsInts W .i64 r XL := hd 9 (by decide)
              have dd : ρ (.tmp 58) = .tuple #[r, .bool ok] := (hA.dep 9 (by decide) 58 rfl).trans h1
              exact runq_val (W' := W) (v := r) (by simp [execOp, dd, go_sem]) (Below.refl _ _) h2
            case s11 =>
              intro val ρ W hE hz hd hA hx
              obtain ⟨r, h1, h2⟩ : ∃ r, val 9 = .tuple #[r, .bool ok] ∧ IsInts W .i64 r XL := hd 9 (by decide)
              have dd : ρ (.tmp 58) = .tuple #[r, .bool ok] := (hA.dep 9 (by decide) 58 rfl).trans h1
              exact runq_val (W' := W) (v := .bool ok) (by simp [execOp, dd, go_sem]) (Below.refl _ _) rfl
            case s12 =>
              intro val ρ W hE hz hd hA hx
              have qx : IsInts W .i64 (val 10) XL := hd 10 (by decide)
              have dx : ρ (.tmp 68) = val 10 := hA.dep 10 (by decide) 68 rfl
              exact runq_val (W' := W) (v := val 10) (by simp [execOp, dx, go_sem]) (Below.refl _ _) qx
            case send =>
              intro val WW hE hzz hv
              obtain ⟨-, -, -, -, -, -, -, -, -, -, -, -, q8, q9, -⟩ := hv
              have q9' : val 13 = .bool ok := q9
              replace q8 : IsInts WW .i64 (val 12) XL := q8
              obtain ⟨X8, hX8⟩ : ∃ X8, X8 = val 12 := ⟨_, rfl⟩
              rw [← hX8] at q8
              simp only [putD, q9', ← hX8]
              go_frame
              clear q9 q9' hX8 hzz
              obtain ⟨xa, xc, rfl, -, -, -⟩ := q8.spec
              have HX8 := Lib.hid q8
              clear q8
              have hE2 : Ext U WW := HE.out.trans' hE
              have hEY : Ext Y WW := hE
              have HEW := Lib.hid hE2
              have HSW := Lib.hid (HSr.out.ext hEY)
              have HLW := Lib.hid (HL2.out.ext hE2)
              have k2 := cell_ext hEY k1
              have hz2 := World.block_lt_of_cell? _ _ k2
              have e1 := cell_ext hEY d1
              have hbz2 := World.block_lt_of_cell? _ _ e1
              simp only at hz2 hbz2
              clear hE hE2 hEY d0 d1 k1
              have htl := isSt_len HTS.out
              cases ok
              · have hf : fullP allW ks t = true := by have := HOKX.out; cases h : fullP allW ks t <;> simp [h] at this ⊢
                have HF := Lib.hid (HNX.out (by unfold right1; rw [hf]; rfl))
                clear hf htl
                go_wp2_with fail
                go_loopw [11] (fun i W => i = .int .i64 0 ∧ Ext WW W) (fun _ _ => 0)
                case atStart => exact ⟨rfl, Below.refl _ _⟩
                case round =>
                  obtain ⟨rfl, hE3⟩ := hrel
                  have HE3 := Lib.hid hE3
                  clear hE3
                  go_wp2_with fail
                  go_roundw
                  case rel => exact ⟨m + 1, by omega, by go_num, HF.out, HEW.out.trans' HE3.out⟩
                  case measure => simp [intOf]; omega
              · have hf : fullP allW ks t = false := by have := HOKX.out; cases h : fullP allW ks t <;> simp [h] at this ⊢
                have hxl : XL = upP allW t := by rw [HXLX.out, hf]; rfl
                have hxll : XL.length = ks.length := by rw [hxl, upP_len, htl]
                have HXL2 := Lib.hid hxl
                have HXLL := Lib.hid hxll
                have HF := Lib.hid hf
                have hx5 : XL.length ≤ 1000 := by omega
                clear hf htl hxl hxll HXLX
                go_wp2_with fail
                go_loopw [11] (fun i W => ∃ j : Nat, j ≤ ks.length ∧ i = .int .i64 j ∧ (∀ u, u < j → covB l (visit XL u) left = true) ∧ Ext WW W) (fun i _ => ks.length - (intOf i).toNat)
                case atStart => exact ⟨0, by omega, rfl, fun u h => by omega, Below.refl _ _⟩
                case round =>
                  obtain ⟨j, hj, rfl, hcv, hE3⟩ := hrel
                  have HCV := Lib.hid hcv
                  have HE3 := Lib.hid hE3
                  have k3 := cell_ext hE3 k2
                  have hz3 := World.block_lt_of_cell? _ _ k3
                  have e3 := cell_ext hE3 e1
                  have hbz3 := World.block_lt_of_cell? _ _ e3
                  simp only at hz3 hbz3
                  have HX9 := Lib.hid (HX8.out.ext hE3)
                  have HL9 := Lib.hid (HLW.out.ext hE3)
                  clear hcv hE3
                  by_cases hjl : j < ks.length
                  · have hji : (j : Int) < (ks.length : Int) := by omega
                    have hjx : j < XL.length := by rw [HXLL.out]; exact hjl
                    have hvl : ∀ d ∈ l, d.1.length = (visit XL j).length := fun d hd => by rw [visit_len, HXLL.out]; exact isSt_len (HSTD.out d hd).1
                    obtain ⟨cb, hcb⟩ : ∃ cb, cb = covB l (visit XL j) left := ⟨_, rfl⟩
                    have HCB := Lib.hid hcb
                    have HVL := Lib.hid hvl
                    clear hcb hvl
                    go_upto_region 17 with (fail)
                    obtain ⟨Z, hZ⟩ : ∃ Z, Z = wr := ⟨_, rfl⟩
                    subst hZ
                    refine wp_region_rove (Z.heap.size) (Nat.le_refl _)
                      [sqV (.slice (some ⟨b, off, none⟩) l.length lcap),
                       sqV (.slice xa XL.length xc),
                       sqV (.int .i64 j),
                       sqW (fun v W => IsInts W .i64 v (visit XL j)) (fun _ _ _ h e => IsInts.ext e h),
                       sqV (.slice (some ⟨b, off, none⟩) l.length lcap),
                       sqV (.int .i64 m),
                       sqV (.pointer (some ⟨b, off + m * 2, none⟩)),
                       sqV (.pointer (some ⟨b, off + m * 2 + 1, none⟩)),
                       sqV (.int .i64 left),
                       sqV (.bool cb),
                       sqV (.bool (!cb))]
                      [true, true, true, false, true, true, true, true, true, true, true] [false, false, false, false, false, false, false, false, false, false, false] [true, true, true, true, true, true, true, true, true, true, true] [true, true, true, true, true, true, true, true, true, true, true]
                      (by kernel_rfl) (by kernel_rfl) (by decide +kernel) (by decide +kernel) (by decide +kernel) rfl ⟨rfl, rfl⟩ ⟨?s0, ?s1, ?s2, ?s3, ?s4, ?s5, ?s6, ?s7, ?s8, ?s9, ?s10, trivial⟩ [some 80, some 81, some 82, some 83, some 84, some 85, some 86, some 87, some 88, some 89, some 90] rfl rfl ?send
                    case s0 =>
                      intro val ρ W hE hz hd hA hx
                      have o0 : ρ (.tmp 2) = .slice (some ⟨b, off, none⟩) l.length lcap := hA.old 2 (by decide)
                      clear hd
                      exact runq_val (W' := W) (by simp [execOp, o0, go_sem]) (Below.refl _ _) rfl
                    case s1 =>
                      intro val ρ W hE hz hd hA hx
                      have o0 : ρ (.tmp 9) = .slice xa XL.length xc := hA.old 9 (by decide)
                      clear hd
                      exact runq_val (W' := W) (by simp [execOp, o0, go_sem]) (Below.refl _ _) rfl
                    case s2 =>
                      intro val ρ W hE hz hd hA hx
                      have o0 : ρ (.tmp 11) = .int .i64 j := hA.old 11 (by decide)
                      clear hd
                      exact runq_val (W' := W) (by simp [execOp, o0, go_sem]) (Below.refl _ _) rfl
                    case s4 =>
                      intro val ρ W hE hz hd hA hx
                      have o0 : ρ (.tmp 2) = .slice (some ⟨b, off, none⟩) l.length lcap := hA.old 2 (by decide)
                      clear hd
                      exact runq_val (W' := W) (by simp [execOp, o0, go_sem]) (Below.refl _ _) rfl
                    case s5 =>
                      intro val ρ W hE hz hd hA hx
                      have o0 : ρ (.tmp 8) = .int .i64 m := hA.old 8 (by decide)
                      clear hd
                      exact runq_val (W' := W) (by simp [execOp, o0, go_sem]) (Below.refl _ _) rfl
                    case s6 =>
                      intro val ρ W hE hz hd hA hx
                      have d4 : ρ (.tmp 84) = .slice (some ⟨b, off, none⟩) l.length lcap := (hA.dep 4 (by decide) 84 rfl).trans (hd 4 (by decide))
                      have d5 : ρ (.tmp 85) = .int .i64 m := (hA.dep 5 (by decide) 85 rfl).trans (hd 5 (by decide))
                      clear hd
                      exact runq_val (W' := W) (by simp [execOp, d4, d5, hmi, go_sem]) (Below.refl _ _) rfl
                    case s7 =>
                      intro val ρ W hE hz hd hA hx
                      have d6 : ρ (.tmp 86) = .pointer (some ⟨b, off + m * 2, none⟩) := (hA.dep 6 (by decide) 86 rfl).trans (hd 6 (by decide))
                      clear hd
                      exact runq_val (W' := W) (by simp [execOp, d6, go_sem]) (Below.refl _ _) rfl
                    case s8 =>
                      intro val ρ W hE hz hd hA hx
                      have d7 : ρ (.tmp 87) = .pointer (some ⟨b, off + m * 2 + 1, none⟩) := (hA.dep 7 (by decide) 87 rfl).trans (hd 7 (by decide))
                      have f_e3 := cell_below hE (by simp only; omega) e3
                      clear hd
                      exact runq_val (W' := W) (by simp [execOp, d7, f_e3, go_sem]) (Below.refl _ _) rfl
                    case s10 =>
                      intro val ρ W hE hz hd hA hx
                      have d9 : ρ (.tmp 89) = .bool cb := (hA.dep 9 (by decide) 89 rfl).trans (hd 9 (by decide))
                      clear hd
                      exact runq_val (W' := W) (by simp [execOp, d9, go_sem]) (Below.refl _ _) rfl
                    case s3 =>
                      intro val ρ W hE hz hd hA hx
                      have d1 : ρ (.tmp 81) = .slice xa XL.length xc := (hA.dep 1 (by decide) 81 rfl).trans (hd 1 (by decide))
                      have d2 : ρ (.tmp 82) = .int .i64 j := (hA.dep 2 (by decide) 82 rfl).trans (hd 2 (by decide))
                      clear hd
                      refine runq_call 50 _ _ rfl #[.slice xa XL.length xc, .int .i64 j] (hA.func _) (by simp [d1, d2]) (fun args W => Try.call50 args W) ((visitedR_any XL j _ W (HX9.out.ext hE) hjx hx5).mono ?_)
                      rintro e w' ⟨v, rfl, hb, hi⟩
                      exact ⟨_, rfl, hb, hi⟩
                    case s9 =>
                      intro val ρ W hE hz hd hA hx
                      have d0 : ρ (.tmp 80) = .slice (some ⟨b, off, none⟩) l.length lcap := (hA.dep 0 (by decide) 80 rfl).trans (hd 0 (by decide))
                      have d8 : ρ (.tmp 88) = .int .i64 left := (hA.dep 8 (by decide) 88 rfl).trans (hd 8 (by decide))
                      have q3 : IsInts W .i64 (val 3) (visit XL j) := hd 3 (by decide)
                      have d3 : ρ (.tmp 83) = val 3 := hA.dep 3 (by decide) 83 rfl
                      clear hd
                      refine runq_call 85 _ _ rfl #[.slice (some ⟨b, off, none⟩) l.length lcap, val 3, .int .i64 left] (hA.func _) (by simp [d0, d3, d8]) (fun args W => Try.call85 args W) ((belowR_any l (visit XL j) left _ _ W (HL9.out.ext hE) q3 HVL.out).mono ?_)
                      rintro e w' ⟨rfl, hb⟩
                      exact ⟨_, rfl, hb, by rw [HCB.out]; rfl⟩
                    case send =>
                      intro val WW2 hE hzz hv
                      obtain ⟨-, -, -, -, -, -, -, -, -, -, q10, -⟩ := hv
                      have q10' : val 10 = .bool (!cb) := q10
                      have HE4 := Lib.hid (HE3.out.trans' hE)
                      simp only [putD, q10']
                      go_frame
                      clear q10 q10' hE hzz
                      cases cb
                      · have HRF := Lib.hid (HBAD.out (by
                          cases e : right1 ks l (t, left) with
                          | false => rfl
                          | true =>
                            unfold right1 at e
                            rw [HF.out, Bool.false_or] at e
                            have h1 := List.all_eq_true.1 e j (List.mem_range.2 hjl)
                            have h2 := HCB.out
                            rw [HXL2.out, h1] at h2
                            cases h2))
                        go_wp2_with fail
                        go_ret
                        exact ⟨ret_int (by rw [HDE.out, HRF.out]; simp), HR.out.trans' (HEW.out.trans' HE4.out)⟩
                      · go_wp2_with fail
                        go_roundw
                        case rel =>
                          refine ⟨j + 1, by omega, by go_num, fun u hu => ?_, HE4.out⟩
                          by_cases e : u < j
                          · exact HCV.out u e
                          · obtain rfl : u = j := by omega
                            exact HCB.out.symm
                        case measure => simp [intOf]; omega
                  · have hjl2 : j = ks.length := by omega
                    have hji : ¬ ((j : Int) < (ks.length : Int)) := by omega
                    have HN := Lib.hid (HNX.out (by
                      unfold right1
                      rw [Bool.or_eq_true]
                      refine .inr (List.all_eq_true.2 fun u hu => ?_)
                      have := HCV.out u (by rw [hjl2]; exact List.mem_range.1 hu)
                      rw [HXL2.out] at this
                      exact this))
                    clear hjl2
                    go_wp2_with fail
                    go_roundw
                    case rel => exact ⟨m + 1, by omega, by go_num, HN.out, HEW.out.trans' HE3.out⟩
                    case measure => simp [intOf]; omega
          · have hml : m = l.length := by omega
            have hmi : ¬ ((m : Int) < (l.length : Int)) := by omega
            have hrb : rightB ks l = true := by
              rw [right_all]
              refine List.all_eq_true.2 fun x hx => HNO.out x ?_
              rw [hml, List.take_length]; exact hx
            have hfin : doomErr ks s l = if covB l s 2199023255552 = true then 0 else 14 := by
              rw [HDE.out, hrb]; simp
            have HFIN := Lib.hid hfin
            clear hml hrb hfin hE
            go_wp2_with fail
            refine (belowR_any l s 2199023255552 _ _ _ (HL2.out.ext (by exact HE.out)) (HP2.out.ext (by exact HE.out)) (fun d hd => by rw [isSt_len HIS.out]; exact isSt_len (HSTD.out d hd).1)).mono ?_
            rintro e W3 ⟨rfl, hE3⟩
            have HR3 := Lib.hid (HR.out.trans' (HE.out.trans' hE3))
            clear hE3
            cases hcv : covB l s 2199023255552
            · rw [hcv] at HFIN
              clear hcv
              go_wp2_with fail
              go_ret
              exact ⟨ret_int (by rw [HFIN.out]; rfl), HR3.out⟩
            · rw [hcv] at HFIN
              clear hcv
              go_wp2_with fail
              go_ret
              exact ⟨ret_int (by rw [HFIN.out]; rfl), HR3.out⟩
end Go.Proofs.Ytndgaklcnhoddaa
namespace Go.Proofs.Ytndgaklcnhoddaa
open Go.RowKit Go.Shelf
theorem isI1 {w : World} {b cap : Nat} {x0 : Int} (c0 : w.cell? ⟨b, 0, none⟩ = some (.int .i64 x0)) (h2 : 1 ≤ cap) (h3 : cap ≤ 9223372036854775807) :
    IsInts w .i64 (.slice (some ⟨b, 0, none⟩) 1 cap) [x0] :=
  IsInts.mk (l := [x0]) (off := 0) h2 h3 fun i hi => match i, hi with
    | 0, _ => c0
    | n + 1, hi => absurd hi (by simp)
theorem isI2 {w : World} {b cap : Nat} {x0 x1 : Int} (c0 : w.cell? ⟨b, 0, none⟩ = some (.int .i64 x0)) (c1 : w.cell? ⟨b, 1, none⟩ = some (.int .i64 x1)) (h2 : 2 ≤ cap) (h3 : cap ≤ 9223372036854775807) :
    IsInts w .i64 (.slice (some ⟨b, 0, none⟩) 2 cap) [x0, x1] :=
  IsInts.mk (l := [x0, x1]) (off := 0) h2 h3 fun i hi => match i, hi with
    | 0, _ => c0
    | 1, _ => c1
    | n + 2, hi => absurd hi (by simp)
theorem isI3 {w : World} {b cap : Nat} {x0 x1 x2 : Int} (c0 : w.cell? ⟨b, 0, none⟩ = some (.int .i64 x0)) (c1 : w.cell? ⟨b, 1, none⟩ = some (.int .i64 x1)) (c2 : w.cell? ⟨b, 2, none⟩ = some (.int .i64 x2)) (h2 : 3 ≤ cap) (h3 : cap ≤ 9223372036854775807) :
    IsInts w .i64 (.slice (some ⟨b, 0, none⟩) 3 cap) [x0, x1, x2] :=
  IsInts.mk (l := [x0, x1, x2]) (off := 0) h2 h3 fun i hi => match i, hi with
    | 0, _ => c0
    | 1, _ => c1
    | 2, _ => c2
    | n + 3, hi => absurd hi (by simp)
theorem isI4 {w : World} {b cap : Nat} {x0 x1 x2 x3 : Int} (c0 : w.cell? ⟨b, 0, none⟩ = some (.int .i64 x0)) (c1 : w.cell? ⟨b, 1, none⟩ = some (.int .i64 x1)) (c2 : w.cell? ⟨b, 2, none⟩ = some (.int .i64 x2)) (c3 : w.cell? ⟨b, 3, none⟩ = some (.int .i64 x3)) (h2 : 4 ≤ cap) (h3 : cap ≤ 9223372036854775807) :
    IsInts w .i64 (.slice (some ⟨b, 0, none⟩) 4 cap) [x0, x1, x2, x3] :=
  IsInts.mk (l := [x0, x1, x2, x3]) (off := 0) h2 h3 fun i hi => match i, hi with
    | 0, _ => c0
    | 1, _ => c1
    | 2, _ => c2
    | 3, _ => c3
    | n + 4, hi => absurd hi (by simp)
theorem isI8 {w : World} {b cap : Nat} {x0 x1 x2 x3 x4 x5 x6 x7 : Int} (c0 : w.cell? ⟨b, 0, none⟩ = some (.int .i64 x0)) (c1 : w.cell? ⟨b, 1, none⟩ = some (.int .i64 x1)) (c2 : w.cell? ⟨b, 2, none⟩ = some (.int .i64 x2)) (c3 : w.cell? ⟨b, 3, none⟩ = some (.int .i64 x3)) (c4 : w.cell? ⟨b, 4, none⟩ = some (.int .i64 x4)) (c5 : w.cell? ⟨b, 5, none⟩ = some (.int .i64 x5)) (c6 : w.cell? ⟨b, 6, none⟩ = some (.int .i64 x6)) (c7 : w.cell? ⟨b, 7, none⟩ = some (.int .i64 x7)) (h2 : 8 ≤ cap) (h3 : cap ≤ 9223372036854775807) :
    IsInts w .i64 (.slice (some ⟨b, 0, none⟩) 8 cap) [x0, x1, x2, x3, x4, x5, x6, x7] :=
  IsInts.mk (l := [x0, x1, x2, x3, x4, x5, x6, x7]) (off := 0) h2 h3 fun i hi => match i, hi with
    | 0, _ => c0
    | 1, _ => c1
    | 2, _ => c2
    | 3, _ => c3
    | 4, _ => c4
    | 5, _ => c5
    | 6, _ => c6
    | 7, _ => c7
    | n + 8, hi => absurd hi (by simp)
def P2 (l : List Int) (v : Value) (W : World) : Prop := ∃ b, v = .slice (some ⟨b, 0, none⟩) 2 2 ∧ IsInts W .i64 (.slice (some ⟨b, 0, none⟩) 2 2) l
def PS (n : Int) (l : List Int) (v : Value) (W : World) : Prop := ∃ b, v = .agg #[.slice (some ⟨b, 0, none⟩) 2 2, .int .i64 n] ∧ IsInts W .i64 (.slice (some ⟨b, 0, none⟩) 2 2) l
theorem P2.ext {l : List Int} {v : Value} {w w' : World} (e : Ext w w') (h : P2 l v w) : P2 l v w' := by
  obtain ⟨b, h1, h2⟩ := h
  exact ⟨b, h1, h2.ext e⟩
theorem PS.ext {n : Int} {l : List Int} {v : Value} {w w' : World} (e : Ext w w') (h : PS n l v w) : PS n l v w' := by
  obtain ⟨b, h1, h2⟩ := h
  exact ⟨b, h1, h2.ext e⟩
theorem rowErr_of {ks row : List Int} (h : row.length ≤ 1000) (hw : WinL ks row) : rowErr ks row = 0 := by
  unfold rowErr
  rw [if_neg (by omega), if_pos]
  exact List.all_eq_true.2 fun x hx => by
    have := hw x hx
    rw [inR_iff]; omega
theorem circErr_of {ks row : List Int} (v : TVal ks) (hn : row ≠ []) (h : row.length ≤ 1000) (hw : WinL ks row) (hc : circP ks row = true) : circErr ks row = 0 := by
  unfold circErr
  have h1 : 0 < row.length := List.length_pos_iff.2 hn
  rw [if_neg (fun e => e (tchk_of v)), if_neg (by omega), if_neg (fun e => e (rowErr_of h hw)), if_pos hc]
set_option maxRecDepth 200000 in
set_option maxHeartbeats 16000000 in
theorem works_any (w : World) : Calls Try.prog 19 #[] w fun e W => e = .returned (.bool true) ∧ Ext w W := by
  have V1a := Lib.hid v1.1
  have V1b := Lib.hid v1.2.1
  have V1c := Lib.hid v1.2.2
  have V2a := Lib.hid v2.1
  have V2b := Lib.hid v2.2.1
  have V2c := Lib.hid v2.2.2
  have V3a := Lib.hid v3.1
  have V3b := Lib.hid v3.2.1
  have V3c := Lib.hid v3.2.2
  have V4 := Lib.hid v4
  have V5 := Lib.hid v5
  have V6 := Lib.hid v6
  have V7 := Lib.hid v7
  have V8 := Lib.hid v8
  have V9a := Lib.hid v9.1
  have V9b := Lib.hid v9.2
  have V10a := Lib.hid v10.1
  have V10b := Lib.hid v10.2
  have V11a := Lib.hid v11.1
  have V11b := Lib.hid v11.2
  have V12a := Lib.hid v12.1
  have V12b := Lib.hid v12.2
  have V13 := Lib.hid v13
  have VH := Lib.hid vH
  have VJ := Lib.hid vJ
  have VK := Lib.hid vK
  have LH := Lib.hid (show hH = [2, 3] from rfl)
  have LJ := Lib.hid (show hJ = [2, 3, 6] from rfl)
  have LK := Lib.hid (show hK = [1, 1] from rfl)
  go_enter Try.func19, Try.ntmps19

  go_wp2_with fail
  refine callWR (W0 := w) (g := ⟨w, Below.refl _ _⟩) (by exact (by repeat (first | exact Below.refl _ _ | refine Ext.al ?_ _ | refine Ext.dr ?_ | refine Ext.drN ?_ _ | refine Ext.gr ?_ _ | refine Ext.set ?_ (by simp) _ | (refine Ext.trans' ?_ (by assumption))))) (hallL_any hH _ _ (by rw [LH.out]; exact (isI2 (by simp [go_sem]) (by simp [go_sem]) (by omega) (by omega)))) (fun _ _ ⟨_, _, r, _⟩ => r) fun _ g1 hgr hr => ?_
  obtain ⟨va, rfl, -, hA⟩ := hr
  clear hgr
  obtain ⟨ha, hc, rfl, -⟩ := hA.spec
  have HA := Lib.hid hA
  clear hA

  go_wp2_with fail
  refine callWR (W0 := w) (g := g1) (by exact (by repeat (first | exact Below.refl _ _ | refine Ext.al ?_ _ | refine Ext.dr ?_ | refine Ext.drN ?_ _ | refine Ext.gr ?_ _ | refine Ext.set ?_ (by simp) _ | (refine Ext.trans' ?_ (by assumption))))) (hallL_any hJ _ _ (by rw [LJ.out]; exact (isI3 (by simp [go_sem]) (by simp [go_sem]) (by simp [go_sem]) (by omega) (by omega)))) (fun _ _ ⟨_, _, r, _⟩ => r) fun _ g2 hgr hr => ?_
  obtain ⟨vb, rfl, -, hB⟩ := hr
  replace HA := Lib.hid (HA.out.ext hgr)
  clear hgr
  obtain ⟨ja, jc, rfl, -⟩ := hB.spec
  have HB := Lib.hid hB
  clear hB

  go_wp2_with fail
  refine callWR (W0 := w) (g := g2) (by exact (by repeat (first | exact Below.refl _ _ | refine Ext.al ?_ _ | refine Ext.dr ?_ | refine Ext.drN ?_ _ | refine Ext.gr ?_ _ | refine Ext.set ?_ (by simp) _ | (refine Ext.trans' ?_ (by assumption))))) (hallL_any hK _ _ (by rw [LK.out]; exact (isI2 (by simp [go_sem]) (by simp [go_sem]) (by omega) (by omega)))) (fun _ _ ⟨_, _, r, _⟩ => r) fun _ g3 hgr hr => ?_
  obtain ⟨vc, rfl, -, hC⟩ := hr
  replace HA := Lib.hid (HA.out.ext hgr)
  replace HB := Lib.hid (HB.out.ext hgr)
  clear hgr
  obtain ⟨ka, kc, rfl, -⟩ := hC.spec
  have HC := Lib.hid hC
  clear hC
  go_upto_region 2 with (fail)
  obtain ⟨W0, hW0⟩ : ∃ W0, W0 = (((grow w g3).alloc (.cells #[.slice ha hH.length hc] 24)).alloc (.cells #[.slice ja hJ.length jc] 24)).alloc (.cells #[.slice ka hK.length kc] 24) := ⟨_, rfl⟩
  have k1 : W0.cell? ⟨(grow w g3).heap.size, 0, none⟩ = some (.slice ha hH.length hc) := by rw [hW0]; simp [go_sem]
  have k2 : W0.cell? ⟨(grow w g3).heap.size + 1, 0, none⟩ = some (.slice ja hJ.length jc) := by rw [hW0]; simp [go_sem]
  have k3 : W0.cell? ⟨(grow w g3).heap.size + 1 + 1, 0, none⟩ = some (.slice ka hK.length kc) := by rw [hW0]; simp [go_sem]
  have hE0 : Ext (grow w g3) W0 := by rw [hW0]; exact (by repeat (first | exact Below.refl _ _ | refine Ext.al ?_ _ | refine Ext.dr ?_ | refine Ext.drN ?_ _ | refine Ext.gr ?_ _ | refine Ext.set ?_ (by simp) _ | (refine Ext.trans' ?_ (by assumption))))
  have HW := Lib.hid (Ext.trans' (grow_below w g3) hE0)
  replace HA := Lib.hid (HA.out.ext hE0)
  replace HB := Lib.hid (HB.out.ext hE0)
  replace HC := Lib.hid (HC.out.ext hE0)
  rw [← hW0]
  obtain ⟨b, hb⟩ : ∃ b, b = (grow w g3).heap.size := ⟨_, rfl⟩
  rw [← hb] at k1 k2 k3 ⊢
  have z1 := World.block_lt_of_cell? _ _ k1
  have z2 := World.block_lt_of_cell? _ _ k2
  have z3 := World.block_lt_of_cell? _ _ k3
  simp only at z1 z2 z3
  clear hW0 hE0 hb




  go_wp2_with fail
  refine callWR (W0 := W0) (g := ⟨W0, Below.refl _ _⟩) (by exact (by repeat (first | exact Below.refl _ _ | refine Ext.al ?_ _ | refine Ext.dr ?_ | refine Ext.drN ?_ _ | refine Ext.gr ?_ _ | refine Ext.set ?_ (by simp) _ | (refine Ext.trans' ?_ (by assumption))))) (turn_any hH [1, 2] [0] 1 _ _ _ _ (HA.out.ext (by exact (by repeat (first | exact Below.refl _ _ | refine Ext.al ?_ _ | refine Ext.dr ?_ | refine Ext.drN ?_ _ | refine Ext.gr ?_ _ | refine Ext.set ?_ (by simp) _ | (refine Ext.trans' ?_ (by assumption)))))) (isI2 (by simp [go_sem]) (by simp [go_sem]) (by omega) (by omega)) (isI1 (by simp [go_sem]) (by omega) (by omega))) (fun _ _ ⟨_, _, r, _⟩ => r) fun _ g1 hgr hr => ?_
  obtain ⟨x, rfl, -, hI⟩ := hr
  clear hgr
  rw [V1c.out, V1a.out]
  rw [V1b.out] at hI
  obtain ⟨a1, c1, rfl, -⟩ := hI.spec
  have HI1 := Lib.hid hI
  clear hI

  go_wp2_with fail
  refine callWR (W0 := W0) (g := g1) (by exact (by repeat (first | exact Below.refl _ _ | refine Ext.al ?_ _ | refine Ext.dr ?_ | refine Ext.drN ?_ _ | refine Ext.gr ?_ _ | refine Ext.set ?_ (by simp) _ | (refine Ext.trans' ?_ (by assumption))))) (play_any hH [0, 0] [0, 1, 0] _ _ _ _ (HA.out.ext (by exact (by repeat (first | exact Below.refl _ _ | refine Ext.al ?_ _ | refine Ext.dr ?_ | refine Ext.drN ?_ _ | refine Ext.gr ?_ _ | refine Ext.set ?_ (by simp) _ | (refine Ext.trans' ?_ (by assumption)))))) (isI2 (by simp [go_sem]) (by simp [go_sem]) (by omega) (by omega)) (isI3 (by simp [go_sem]) (by simp [go_sem]) (by simp [go_sem]) (by omega) (by omega))) (fun _ _ ⟨_, _, r, _⟩ => r) fun _ g2 hgr hr => ?_
  obtain ⟨x, rfl, -, hI⟩ := hr
  replace HI1 := Lib.hid (HI1.out.ext hgr)
  clear hgr
  rw [V2c.out, V2a.out]
  rw [V2b.out] at hI
  obtain ⟨a2, c2, rfl, -⟩ := hI.spec
  have HI2 := Lib.hid hI
  clear hI

  go_wp2_with fail
  refine callWR (W0 := W0) (g := g2) (by exact (by repeat (first | exact Below.refl _ _ | refine Ext.al ?_ _ | refine Ext.dr ?_ | refine Ext.drN ?_ _ | refine Ext.gr ?_ _ | refine Ext.set ?_ (by simp) _ | (refine Ext.trans' ?_ (by assumption))))) (play_any hH [0, 0] [0, 0, 0, 0] _ _ _ _ (HA.out.ext (by exact (by repeat (first | exact Below.refl _ _ | refine Ext.al ?_ _ | refine Ext.dr ?_ | refine Ext.drN ?_ _ | refine Ext.gr ?_ _ | refine Ext.set ?_ (by simp) _ | (refine Ext.trans' ?_ (by assumption)))))) (isI2 (by simp [go_sem]) (by simp [go_sem]) (by omega) (by omega)) (isI4 (by simp [go_sem]) (by simp [go_sem]) (by simp [go_sem]) (by simp [go_sem]) (by omega) (by omega))) (fun _ _ ⟨_, _, r, _⟩ => r) fun _ g3 hgr hr => ?_
  obtain ⟨x, rfl, -, hI⟩ := hr
  replace HI1 := Lib.hid (HI1.out.ext hgr)
  replace HI2 := Lib.hid (HI2.out.ext hgr)
  clear hgr
  rw [V3c.out, V3a.out]
  rw [V3b.out] at hI
  obtain ⟨a3, c3, rfl, -⟩ := hI.spec
  clear hI
  go_wp2_with fail
  refine callW (W0 := W0) (g := g3) (by exact (by repeat (first | exact Below.refl _ _ | refine Ext.al ?_ _ | refine Ext.dr ?_ | refine Ext.drN ?_ _ | refine Ext.gr ?_ _ | refine Ext.set ?_ (by simp) _ | (refine Ext.trans' ?_ (by assumption))))) (checkCircle_any hH [0, 0, 1] _ _ _ (HA.out.ext (by exact (by repeat (first | exact Below.refl _ _ | refine Ext.al ?_ _ | refine Ext.dr ?_ | refine Ext.drN ?_ _ | refine Ext.gr ?_ _ | refine Ext.set ?_ (by simp) _ | (refine Ext.trans' ?_ (by assumption)))))) (isI3 (by simp [go_sem]) (by simp [go_sem]) (by simp [go_sem]) (by omega) (by omega))) fun g4 hgr => ?_
  replace HI1 := Lib.hid (HI1.out.ext hgr)
  replace HI2 := Lib.hid (HI2.out.ext hgr)
  clear hgr
  rw [V4.out]
  go_wp2_with fail
  refine callWR (W0 := W0) (g := g4) (by exact (by repeat (first | exact Below.refl _ _ | refine Ext.al ?_ _ | refine Ext.dr ?_ | refine Ext.drN ?_ _ | refine Ext.gr ?_ _ | refine Ext.set ?_ (by simp) _ | (refine Ext.trans' ?_ (by assumption))))) (circleT_any hH _ _ (HA.out.ext (by exact (by repeat (first | exact Below.refl _ _ | refine Ext.al ?_ _ | refine Ext.dr ?_ | refine Ext.drN ?_ _ | refine Ext.gr ?_ _ | refine Ext.set ?_ (by simp) _ | (refine Ext.trans' ?_ (by assumption))))))) (fun _ _ ⟨_, _, _, r, _⟩ => r) fun _ g5 hgr hr => ?_
  obtain ⟨x, row, rfl, -, hI, hcr⟩ := hr
  replace HI1 := Lib.hid (HI1.out.ext hgr)
  replace HI2 := Lib.hid (HI2.out.ext hgr)
  clear hgr
  rw [V5.out]
  have hlen : row.length = 2 := (hcr.short V5.out).inj v5s
  have HCE := Lib.hid (circErr_of VH.out (hcr.ne V5.out) hcr.le (hcr.win V5.out) (hcr.circ V5.out))
  obtain ⟨a5, c5, rfl, -⟩ := hI.spec
  rw [hlen] at hI ⊢
  have HI5 := Lib.hid hI
  clear hI hcr hlen

  go_wp2_with fail
  refine callWR (W0 := W0) (g := g5) (by exact (by repeat (first | exact Below.refl _ _ | refine Ext.al ?_ _ | refine Ext.dr ?_ | refine Ext.drN ?_ _ | refine Ext.gr ?_ _ | refine Ext.set ?_ (by simp) _ | (refine Ext.trans' ?_ (by assumption))))) (circleT_any hJ _ _ (HB.out.ext (by exact (by repeat (first | exact Below.refl _ _ | refine Ext.al ?_ _ | refine Ext.dr ?_ | refine Ext.drN ?_ _ | refine Ext.gr ?_ _ | refine Ext.set ?_ (by simp) _ | (refine Ext.trans' ?_ (by assumption))))))) (fun _ _ ⟨_, _, _, r, _⟩ => r) fun _ g6 hgr hr => ?_
  obtain ⟨x, row6, rfl, -, hI, -⟩ := hr
  replace HI1 := Lib.hid (HI1.out.ext hgr)
  replace HI2 := Lib.hid (HI2.out.ext hgr)
  replace HI5 := Lib.hid (HI5.out.ext hgr)
  clear hgr
  rw [V6.out]
  obtain ⟨a6, c6, rfl, -⟩ := hI.spec
  clear hI
  go_upto_region 8 with (fail)
  obtain ⟨U, hU⟩ : ∃ zz9, zz9 = (grow W0 g6) := ⟨_, rfl⟩
  have eU : Ext W0 U := by rw [hU]; exact (by repeat (first | exact Below.refl _ _ | refine Ext.al ?_ _ | refine Ext.dr ?_ | refine Ext.drN ?_ _ | refine Ext.gr ?_ _ | refine Ext.set ?_ (by simp) _ | (refine Ext.trans' ?_ (by assumption))))
  have eUc : Ext (grow W0 g6) U := by rw [hU]; exact (by repeat (first | exact Below.refl _ _ | refine Ext.al ?_ _ | refine Ext.dr ?_ | refine Ext.drN ?_ _ | refine Ext.gr ?_ _ | refine Ext.set ?_ (by simp) _ | (refine Ext.trans' ?_ (by assumption))))
  replace k1 := cell_ext eU k1
  replace k2 := cell_ext eU k2
  replace k3 := cell_ext eU k3
  replace HA := Lib.hid (HA.out.ext eU)
  replace HB := Lib.hid (HB.out.ext eU)
  replace HC := Lib.hid (HC.out.ext eU)
  replace HI1 := Lib.hid (HI1.out.ext eUc)
  replace HI2 := Lib.hid (HI2.out.ext eUc)
  replace HI5 := Lib.hid (HI5.out.ext eUc)
  replace HW := Lib.hid (HW.out.trans' eU)
  rw [← hU]
  replace z1 := World.block_lt_of_cell? _ _ k1
  replace z2 := World.block_lt_of_cell? _ _ k2
  replace z3 := World.block_lt_of_cell? _ _ k3
  clear hU eU eUc
  refine wp_region_rove (U.heap.size) (Nat.le_refl _)
    [sqV (.agg #[.slice ka hK.length kc]),
     sqW (fun v W => P2 [0, 0] v W) (fun _ _ _ h e => P2.ext e h),
     sqW (fun v W => P2 [0, 1] v W) (fun _ _ _ h e => P2.ext e h),
     sqW (fun v W => PS 1 [0, 1] v W) (fun _ _ _ h e => PS.ext e h),
     sqW (fun v W => P2 [1, 0] v W) (fun _ _ _ h e => P2.ext e h),
     sqW (fun v W => PS 1 [1, 0] v W) (fun _ _ _ h e => PS.ext e h),
     sqW (fun v W => P2 [0, 0] v W) (fun _ _ _ h e => P2.ext e h),
     sqW (fun v W => PS 2 [0, 0] v W) (fun _ _ _ h e => PS.ext e h),
     sqW (fun v W => IsStps W v [([0, 1], 1), ([1, 0], 1), ([0, 0], 2)]) (fun _ _ _ h e => IsStps.ext e h),
     sqV (.int .i64 0),
     sqV (.int .i64 0)]
    [true, false, false, false, false, false, false, false, false, true, true] [false, false, false, false, false, false, false, false, false, false, false] [true, true, true, true, true, true, true, true, true, true, true] [true, true, true, true, true, true, true, true, true, true, true]
    (by kernel_rfl) (by kernel_rfl) (by decide +kernel) (by decide +kernel) (by decide +kernel) rfl ⟨rfl, rfl⟩ ⟨?s0, ?s1, ?s2, ?s3, ?s4, ?s5, ?s6, ?s7, ?s8, ?s9, ?s10, trivial⟩ [some 74, some 75, some 76, some 77, some 78, some 79, some 80, some 81, some 82, some 83, some 18] rfl rfl ?send
  case s0 =>
    intro val ρ W hE hz hd hA hx
    have o0 : ρ (.tmp 3) = .pointer (some ⟨b + 1 + 1, 0, none⟩) := hA.old 3 (by decide)
    have f_k3 := cell_below hE (by simp only; omega) k3
    clear hd
    exact runq_val (W' := W) (by simp [execOp, o0, f_k3, go_sem]) (Below.refl _ _) rfl
  case s10 =>
    intro val ρ W hE hz hd hA hx
    have d9 : ρ (.tmp 83) = .int .i64 0 := (hA.dep 9 (by decide) 83 rfl).trans (hd 9 (by decide))
    clear hd
    exact runq_val (W' := W) (by simp [execOp, d9, go_sem]) (Below.refl _ _) rfl
  case s1 =>
    intro val ρ W hE hz hd hA hx
    clear hd
    refine runq_val (by simp [execOp, hA.const, go_sem]; exact ⟨rfl, rfl⟩) (by exact (by repeat (first | exact Below.refl _ _ | refine Ext.al ?_ _ | refine Ext.dr ?_ | refine Ext.drN ?_ _ | refine Ext.gr ?_ _ | refine Ext.set ?_ (by simp) _ | (refine Ext.trans' ?_ (by assumption))))) ⟨_, rfl, (isI2 (by simp [go_sem]) (by simp [go_sem]) (by omega) (by omega))⟩
  case s2 =>
    intro val ρ W hE hz hd hA hx
    clear hd
    refine runq_val (by simp [execOp, hA.const, go_sem]; exact ⟨rfl, rfl⟩) (by exact (by repeat (first | exact Below.refl _ _ | refine Ext.al ?_ _ | refine Ext.dr ?_ | refine Ext.drN ?_ _ | refine Ext.gr ?_ _ | refine Ext.set ?_ (by simp) _ | (refine Ext.trans' ?_ (by assumption))))) ⟨_, rfl, (isI2 (by simp [go_sem]) (by simp [go_sem]) (by omega) (by omega))⟩
  case s4 =>
    intro val ρ W hE hz hd hA hx
    clear hd
    refine runq_val (by simp [execOp, hA.const, go_sem]; exact ⟨rfl, rfl⟩) (by exact (by repeat (first | exact Below.refl _ _ | refine Ext.al ?_ _ | refine Ext.dr ?_ | refine Ext.drN ?_ _ | refine Ext.gr ?_ _ | refine Ext.set ?_ (by simp) _ | (refine Ext.trans' ?_ (by assumption))))) ⟨_, rfl, (isI2 (by simp [go_sem]) (by simp [go_sem]) (by omega) (by omega))⟩
  case s6 =>
    intro val ρ W hE hz hd hA hx
    clear hd
    refine runq_val (by simp [execOp, hA.const, go_sem]; exact ⟨rfl, rfl⟩) (by exact (by repeat (first | exact Below.refl _ _ | refine Ext.al ?_ _ | refine Ext.dr ?_ | refine Ext.drN ?_ _ | refine Ext.gr ?_ _ | refine Ext.set ?_ (by simp) _ | (refine Ext.trans' ?_ (by assumption))))) ⟨_, rfl, (isI2 (by simp [go_sem]) (by simp [go_sem]) (by omega) (by omega))⟩
  case s3 =>
    intro val ρ W hE hz hd hA hx
    obtain ⟨b2, h1, h2⟩ : P2 [0, 1] (val 2) W := hd 2 (by decide)
    have d2 : ρ (.tmp 76) = .slice (some ⟨b2, 0, none⟩) 2 2 := (hA.dep 2 (by decide) 76 rfl).trans h1
    clear hd
    refine runq_call 61 _ _ rfl #[.int .i64 1, .slice (some ⟨b2, 0, none⟩) 2 2] (hA.func _) (by simp [d2, hA.const]) (fun args W => Try.call61 args W) ((stepL_any [0, 1] 1 _ W h2).mono ?_)
    rintro e w' ⟨rfl, hb⟩
    exact ⟨_, rfl, hb, b2, rfl, h2.ext hb⟩
  case s5 =>
    intro val ρ W hE hz hd hA hx
    obtain ⟨b2, h1, h2⟩ : P2 [1, 0] (val 4) W := hd 4 (by decide)
    have d2 : ρ (.tmp 78) = .slice (some ⟨b2, 0, none⟩) 2 2 := (hA.dep 4 (by decide) 78 rfl).trans h1
    clear hd
    refine runq_call 61 _ _ rfl #[.int .i64 1, .slice (some ⟨b2, 0, none⟩) 2 2] (hA.func _) (by simp [d2, hA.const]) (fun args W => Try.call61 args W) ((stepL_any [1, 0] 1 _ W h2).mono ?_)
    rintro e w' ⟨rfl, hb⟩
    exact ⟨_, rfl, hb, b2, rfl, h2.ext hb⟩
  case s7 =>
    intro val ρ W hE hz hd hA hx
    obtain ⟨b2, h1, h2⟩ : P2 [0, 0] (val 6) W := hd 6 (by decide)
    have d2 : ρ (.tmp 80) = .slice (some ⟨b2, 0, none⟩) 2 2 := (hA.dep 6 (by decide) 80 rfl).trans h1
    clear hd
    refine runq_call 61 _ _ rfl #[.int .i64 2, .slice (some ⟨b2, 0, none⟩) 2 2] (hA.func _) (by simp [d2, hA.const]) (fun args W => Try.call61 args W) ((stepL_any [0, 0] 2 _ W h2).mono ?_)
    rintro e w' ⟨rfl, hb⟩
    exact ⟨_, rfl, hb, b2, rfl, h2.ext hb⟩
  case s8 =>
    intro val ρ W hE hz hd hA hx
    obtain ⟨b3, h3, i3⟩ : PS 1 [0, 1] (val 3) W := hd 3 (by decide)
    obtain ⟨b5, h5, i5⟩ : PS 1 [1, 0] (val 5) W := hd 5 (by decide)
    obtain ⟨b7, h7, i7⟩ : PS 2 [0, 0] (val 7) W := hd 7 (by decide)
    have d3 : ρ (.tmp 77) = .agg #[.slice (some ⟨b3, 0, none⟩) 2 2, .int .i64 1] := (hA.dep 3 (by decide) 77 rfl).trans h3
    have d5 : ρ (.tmp 79) = .agg #[.slice (some ⟨b5, 0, none⟩) 2 2, .int .i64 1] := (hA.dep 5 (by decide) 79 rfl).trans h5
    have d7 : ρ (.tmp 81) = .agg #[.slice (some ⟨b7, 0, none⟩) 2 2, .int .i64 2] := (hA.dep 7 (by decide) 81 rfl).trans h7
    clear hd
    refine runq_val (by simp [execOp, d3, d5, d7, go_sem]; exact ⟨rfl, rfl⟩) (by exact (by repeat (first | exact Below.refl _ _ | refine Ext.al ?_ _ | refine Ext.dr ?_ | refine Ext.drN ?_ _ | refine Ext.gr ?_ _ | refine Ext.set ?_ (by simp) _ | (refine Ext.trans' ?_ (by assumption))))) ⟨_, 3, rfl, by simp, by omega, .inr ⟨_, 0, rfl, fun i hi => ?_⟩⟩
    match i, hi with
    | 0, _ => exact ⟨_, _, by simp [go_sem], i3.ext (by exact (by repeat (first | exact Below.refl _ _ | refine Ext.al ?_ _ | refine Ext.dr ?_ | refine Ext.drN ?_ _ | refine Ext.gr ?_ _ | refine Ext.set ?_ (by simp) _ | (refine Ext.trans' ?_ (by assumption))))), by simp [go_sem]⟩
    | 1, _ => exact ⟨_, _, by simp [go_sem], i5.ext (by exact (by repeat (first | exact Below.refl _ _ | refine Ext.al ?_ _ | refine Ext.dr ?_ | refine Ext.drN ?_ _ | refine Ext.gr ?_ _ | refine Ext.set ?_ (by simp) _ | (refine Ext.trans' ?_ (by assumption))))), by simp [go_sem]⟩
    | 2, _ => exact ⟨_, _, by simp [go_sem], i7.ext (by exact (by repeat (first | exact Below.refl _ _ | refine Ext.al ?_ _ | refine Ext.dr ?_ | refine Ext.drN ?_ _ | refine Ext.gr ?_ _ | refine Ext.set ?_ (by simp) _ | (refine Ext.trans' ?_ (by assumption))))), by simp [go_sem]⟩
    | n + 3, hi => exact absurd hi (by simp)
  case s9 =>
    intro val ρ W hE hz hd hA hx
    have d0 : ρ (.tmp 74) = .agg #[.slice ka hK.length kc] := (hA.dep 0 (by decide) 74 rfl).trans (hd 0 (by decide))
    obtain ⟨b2, h1, h2⟩ : P2 [0, 0] (val 1) W := hd 1 (by decide)
    have d1 : ρ (.tmp 75) = .slice (some ⟨b2, 0, none⟩) 2 2 := (hA.dep 1 (by decide) 75 rfl).trans h1
    have q8 : IsStps W (val 8) [([0, 1], 1), ([1, 0], 1), ([0, 0], 2)] := hd 8 (by decide)
    have d8 : ρ (.tmp 82) = val 8 := hA.dep 8 (by decide) 82 rfl
    clear hd
    refine runq_call 36 _ _ rfl #[.agg #[.slice ka hK.length kc], .slice (some ⟨b2, 0, none⟩) 2 2, val 8] (hA.func _) (by simp [d0, d1, d8]) (fun args W => Try.call36 args W) ((checkDoom_any hK [0, 0] _ _ _ _ W (HC.out.ext hE) h2 q8).mono ?_)
    rintro e w' ⟨rfl, hb⟩
    exact ⟨_, rfl, hb, by rw [V7.out]; rfl⟩
  case send =>
    intro val WW hE hzz hv
    obtain ⟨-, -, -, -, -, -, -, -, -, -, q10, -⟩ := hv
    have q10' : val 10 = .int .i64 0 := q10
    replace HI1 := Lib.hid (HI1.out.ext hE)
    replace HI2 := Lib.hid (HI2.out.ext hE)
    replace HI5 := Lib.hid (HI5.out.ext hE)
    obtain ⟨g20, rfl⟩ := grow_of hE
    simp only [putD, q10']
    go_frame
    clear q10 q10' hE hzz


    go_wp2_with fail
    refine callWR (W0 := U) (g := g20) (by exact (by repeat (first | exact Below.refl _ _ | refine Ext.al ?_ _ | refine Ext.dr ?_ | refine Ext.drN ?_ _ | refine Ext.gr ?_ _ | refine Ext.set ?_ (by simp) _ | (refine Ext.trans' ?_ (by assumption))))) (doomF_any hJ [0, 0, 0] _ _ _ (HB.out.ext (by exact (by repeat (first | exact Below.refl _ _ | refine Ext.al ?_ _ | refine Ext.dr ?_ | refine Ext.drN ?_ _ | refine Ext.gr ?_ _ | refine Ext.set ?_ (by simp) _ | (refine Ext.trans' ?_ (by assumption)))))) (isI3 (by simp [go_sem]) (by simp [go_sem]) (by simp [go_sem]) (by omega) (by omega))) (fun _ _ ⟨_, _, _, r, _⟩ => r) fun _ g7 hgr hr => ?_
    obtain ⟨x, l8, rfl, -, hS, -, hD⟩ := hr
    replace HI1 := Lib.hid (HI1.out.ext hgr)
    replace HI2 := Lib.hid (HI2.out.ext hgr)
    replace HI5 := Lib.hid (HI5.out.ext hgr)
    clear hgr
    rw [V8.out]
    have HDE := Lib.hid (hD V8.out).1
    obtain ⟨a8, c8, rfl, -, -⟩ := hS.spec
    have HS8 := Lib.hid hS
    clear hS hD

    go_wp2_with fail
    refine callWR (W0 := U) (g := g7) (by exact (by repeat (first | exact Below.refl _ _ | refine Ext.al ?_ _ | refine Ext.dr ?_ | refine Ext.drN ?_ _ | refine Ext.gr ?_ _ | refine Ext.set ?_ (by simp) _ | (refine Ext.trans' ?_ (by assumption))))) (next_any hH [0, 2] _ _ _ (HA.out.ext (by exact (by repeat (first | exact Below.refl _ _ | refine Ext.al ?_ _ | refine Ext.dr ?_ | refine Ext.drN ?_ _ | refine Ext.gr ?_ _ | refine Ext.set ?_ (by simp) _ | (refine Ext.trans' ?_ (by assumption)))))) (isI2 (by simp [go_sem]) (by simp [go_sem]) (by omega) (by omega))) (fun _ _ ⟨_, _, r, _⟩ => r) fun _ g8 hgr hr => ?_
    obtain ⟨x, rfl, -, hI⟩ := hr
    replace HI1 := Lib.hid (HI1.out.ext hgr)
    replace HI2 := Lib.hid (HI2.out.ext hgr)
    replace HI5 := Lib.hid (HI5.out.ext hgr)
    replace HS8 := Lib.hid (HS8.out.ext hgr)
    clear hgr
    rw [V9a.out]
    rw [V9b.out] at hI
    obtain ⟨a9, c9, rfl, -⟩ := hI.spec
    have HI9 := Lib.hid hI
    clear hI

    go_wp2_with fail
    refine callWR (W0 := U) (g := g8) (by exact (by repeat (first | exact Below.refl _ _ | refine Ext.al ?_ _ | refine Ext.dr ?_ | refine Ext.drN ?_ _ | refine Ext.gr ?_ _ | refine Ext.set ?_ (by simp) _ | (refine Ext.trans' ?_ (by assumption))))) (wait_any hH [2, 2] _ _ _ (HA.out.ext (by exact (by repeat (first | exact Below.refl _ _ | refine Ext.al ?_ _ | refine Ext.dr ?_ | refine Ext.drN ?_ _ | refine Ext.gr ?_ _ | refine Ext.set ?_ (by simp) _ | (refine Ext.trans' ?_ (by assumption)))))) (isI2 (by simp [go_sem]) (by simp [go_sem]) (by omega) (by omega))) (fun _ _ ⟨_, _, r, _⟩ => r) fun _ g9 hgr hr => ?_
    obtain ⟨x, rfl, -, hI⟩ := hr
    replace HI1 := Lib.hid (HI1.out.ext hgr)
    replace HI2 := Lib.hid (HI2.out.ext hgr)
    replace HI5 := Lib.hid (HI5.out.ext hgr)
    replace HS8 := Lib.hid (HS8.out.ext hgr)
    replace HI9 := Lib.hid (HI9.out.ext hgr)
    clear hgr
    rw [V10a.out]
    rw [V10b.out] at hI
    obtain ⟨a10, c10, rfl, -⟩ := hI.spec
    have HI10 := Lib.hid hI
    clear hI

    go_wp2_with fail
    refine callWR (W0 := U) (g := g9) (by exact (by repeat (first | exact Below.refl _ _ | refine Ext.al ?_ _ | refine Ext.dr ?_ | refine Ext.drN ?_ _ | refine Ext.gr ?_ _ | refine Ext.set ?_ (by simp) _ | (refine Ext.trans' ?_ (by assumption))))) (wait_any hH [2, 3] _ _ _ (HA.out.ext (by exact (by repeat (first | exact Below.refl _ _ | refine Ext.al ?_ _ | refine Ext.dr ?_ | refine Ext.drN ?_ _ | refine Ext.gr ?_ _ | refine Ext.set ?_ (by simp) _ | (refine Ext.trans' ?_ (by assumption)))))) (isI2 (by simp [go_sem]) (by simp [go_sem]) (by omega) (by omega))) (fun _ _ ⟨_, _, r, _⟩ => r) fun _ g10 hgr hr => ?_
    obtain ⟨x, rfl, -, hI⟩ := hr
    replace HI1 := Lib.hid (HI1.out.ext hgr)
    replace HI2 := Lib.hid (HI2.out.ext hgr)
    replace HI5 := Lib.hid (HI5.out.ext hgr)
    replace HS8 := Lib.hid (HS8.out.ext hgr)
    replace HI9 := Lib.hid (HI9.out.ext hgr)
    replace HI10 := Lib.hid (HI10.out.ext hgr)
    clear hgr
    rw [V11a.out]
    rw [V11b.out] at hI
    obtain ⟨a11, c11, rfl, -⟩ := hI.spec
    clear hI
    go_wp2_with fail
    refine callWR (W0 := U) (g := g10) (by exact (by repeat (first | exact Below.refl _ _ | refine Ext.al ?_ _ | refine Ext.dr ?_ | refine Ext.drN ?_ _ | refine Ext.gr ?_ _ | refine Ext.set ?_ (by simp) _ | (refine Ext.trans' ?_ (by assumption))))) (lasts_any hJ [0, 0, 0] _ _ _ (HB.out.ext (by exact (by repeat (first | exact Below.refl _ _ | refine Ext.al ?_ _ | refine Ext.dr ?_ | refine Ext.drN ?_ _ | refine Ext.gr ?_ _ | refine Ext.set ?_ (by simp) _ | (refine Ext.trans' ?_ (by assumption)))))) (isI3 (by simp [go_sem]) (by simp [go_sem]) (by simp [go_sem]) (by omega) (by omega))) (fun _ _ ⟨_, _, r, _⟩ => r) fun _ g11 hgr hr => ?_
    obtain ⟨x, rfl, -, hI⟩ := hr
    replace HI1 := Lib.hid (HI1.out.ext hgr)
    replace HI2 := Lib.hid (HI2.out.ext hgr)
    replace HI5 := Lib.hid (HI5.out.ext hgr)
    replace HS8 := Lib.hid (HS8.out.ext hgr)
    replace HI9 := Lib.hid (HI9.out.ext hgr)
    replace HI10 := Lib.hid (HI10.out.ext hgr)
    clear hgr
    rw [V12a.out]
    rw [V12b.out] at hI
    obtain ⟨a12, c12, rfl, -⟩ := hI.spec
    have HI12 := Lib.hid hI
    clear hI

    go_wp2_with fail
    refine callW (W0 := U) (g := g11) (by exact (by repeat (first | exact Below.refl _ _ | refine Ext.al ?_ _ | refine Ext.dr ?_ | refine Ext.drN ?_ _ | refine Ext.gr ?_ _ | refine Ext.set ?_ (by simp) _ | (refine Ext.trans' ?_ (by assumption))))) (count_any hH _ _ (HA.out.ext (by exact (by repeat (first | exact Below.refl _ _ | refine Ext.al ?_ _ | refine Ext.dr ?_ | refine Ext.drN ?_ _ | refine Ext.gr ?_ _ | refine Ext.set ?_ (by simp) _ | (refine Ext.trans' ?_ (by assumption))))))) fun g12 hgr => ?_
    replace HI1 := Lib.hid (HI1.out.ext hgr)
    replace HI2 := Lib.hid (HI2.out.ext hgr)
    replace HI5 := Lib.hid (HI5.out.ext hgr)
    replace HS8 := Lib.hid (HS8.out.ext hgr)
    replace HI9 := Lib.hid (HI9.out.ext hgr)
    replace HI10 := Lib.hid (HI10.out.ext hgr)
    replace HI12 := Lib.hid (HI12.out.ext hgr)
    clear hgr
    rw [V13.out]
    go_upto_region 17 with (fail)
    go_wp2_with fail
    refine callW (W0 := U) (g := g12) (by exact (by repeat (first | exact Below.refl _ _ | refine Ext.al ?_ _ | refine Ext.dr ?_ | refine Ext.drN ?_ _ | refine Ext.gr ?_ _ | refine Ext.set ?_ (by simp) _ | (refine Ext.trans' ?_ (by assumption))))) (intsL_any [2, 0] [2, 0] _ _ _ (HI1.out.ext (by exact (by repeat (first | exact Below.refl _ _ | refine Ext.al ?_ _ | refine Ext.dr ?_ | refine Ext.drN ?_ _ | refine Ext.gr ?_ _ | refine Ext.set ?_ (by simp) _ | (refine Ext.trans' ?_ (by assumption)))))) (isI2 (by simp [go_sem]) (by simp [go_sem]) (by omega) (by omega))) fun g13 hgr => ?_
    replace HI1 := Lib.hid (HI1.out.ext hgr)
    replace HI2 := Lib.hid (HI2.out.ext hgr)
    replace HI5 := Lib.hid (HI5.out.ext hgr)
    replace HS8 := Lib.hid (HS8.out.ext hgr)
    replace HI9 := Lib.hid (HI9.out.ext hgr)
    replace HI10 := Lib.hid (HI10.out.ext hgr)
    replace HI12 := Lib.hid (HI12.out.ext hgr)
    clear hgr
    rw [show decide (([2, 0] : List Int) = [2, 0]) = true from rfl]
    go_wp2_with fail
    refine callW (W0 := U) (g := g13) (by exact (by repeat (first | exact Below.refl _ _ | refine Ext.al ?_ _ | refine Ext.dr ?_ | refine Ext.drN ?_ _ | refine Ext.gr ?_ _ | refine Ext.set ?_ (by simp) _ | (refine Ext.trans' ?_ (by assumption))))) (intsL_any [0, 1] [0, 1] _ _ _ (HI2.out.ext (by exact (by repeat (first | exact Below.refl _ _ | refine Ext.al ?_ _ | refine Ext.dr ?_ | refine Ext.drN ?_ _ | refine Ext.gr ?_ _ | refine Ext.set ?_ (by simp) _ | (refine Ext.trans' ?_ (by assumption)))))) (isI2 (by simp [go_sem]) (by simp [go_sem]) (by omega) (by omega))) fun g14 hgr => ?_
    replace HI1 := Lib.hid (HI1.out.ext hgr)
    replace HI2 := Lib.hid (HI2.out.ext hgr)
    replace HI5 := Lib.hid (HI5.out.ext hgr)
    replace HS8 := Lib.hid (HS8.out.ext hgr)
    replace HI9 := Lib.hid (HI9.out.ext hgr)
    replace HI10 := Lib.hid (HI10.out.ext hgr)
    replace HI12 := Lib.hid (HI12.out.ext hgr)
    clear hgr
    rw [show decide (([0, 1] : List Int) = [0, 1]) = true from rfl]
    go_wp2_with fail
    refine callW (W0 := U) (g := g14) (by exact (by repeat (first | exact Below.refl _ _ | refine Ext.al ?_ _ | refine Ext.dr ?_ | refine Ext.drN ?_ _ | refine Ext.gr ?_ _ | refine Ext.set ?_ (by simp) _ | (refine Ext.trans' ?_ (by assumption))))) (checkCircleR_any hH row _ _ _ (HA.out.ext (by exact (by repeat (first | exact Below.refl _ _ | refine Ext.al ?_ _ | refine Ext.dr ?_ | refine Ext.drN ?_ _ | refine Ext.gr ?_ _ | refine Ext.set ?_ (by simp) _ | (refine Ext.trans' ?_ (by assumption)))))) (HI5.out.ext (by exact (by repeat (first | exact Below.refl _ _ | refine Ext.al ?_ _ | refine Ext.dr ?_ | refine Ext.drN ?_ _ | refine Ext.gr ?_ _ | refine Ext.set ?_ (by simp) _ | (refine Ext.trans' ?_ (by assumption))))))) fun g15 hgr => ?_
    replace HI1 := Lib.hid (HI1.out.ext hgr)
    replace HI2 := Lib.hid (HI2.out.ext hgr)
    replace HI5 := Lib.hid (HI5.out.ext hgr)
    replace HS8 := Lib.hid (HS8.out.ext hgr)
    replace HI9 := Lib.hid (HI9.out.ext hgr)
    replace HI10 := Lib.hid (HI10.out.ext hgr)
    replace HI12 := Lib.hid (HI12.out.ext hgr)
    clear hgr
    rw [HCE.out]
    go_wp2_with fail
    refine callW (W0 := U) (g := g15) (by exact (by repeat (first | exact Below.refl _ _ | refine Ext.al ?_ _ | refine Ext.dr ?_ | refine Ext.drN ?_ _ | refine Ext.gr ?_ _ | refine Ext.set ?_ (by simp) _ | (refine Ext.trans' ?_ (by assumption))))) (checkDoomR_any hJ [0, 0, 0] l8 _ _ _ _ (HB.out.ext (by exact (by repeat (first | exact Below.refl _ _ | refine Ext.al ?_ _ | refine Ext.dr ?_ | refine Ext.drN ?_ _ | refine Ext.gr ?_ _ | refine Ext.set ?_ (by simp) _ | (refine Ext.trans' ?_ (by assumption)))))) (isI3 (by simp [go_sem]) (by simp [go_sem]) (by simp [go_sem]) (by omega) (by omega)) (HS8.out.ext (by exact (by repeat (first | exact Below.refl _ _ | refine Ext.al ?_ _ | refine Ext.dr ?_ | refine Ext.drN ?_ _ | refine Ext.gr ?_ _ | refine Ext.set ?_ (by simp) _ | (refine Ext.trans' ?_ (by assumption))))))) fun g16 hgr => ?_
    replace HI1 := Lib.hid (HI1.out.ext hgr)
    replace HI2 := Lib.hid (HI2.out.ext hgr)
    replace HI5 := Lib.hid (HI5.out.ext hgr)
    replace HS8 := Lib.hid (HS8.out.ext hgr)
    replace HI9 := Lib.hid (HI9.out.ext hgr)
    replace HI10 := Lib.hid (HI10.out.ext hgr)
    replace HI12 := Lib.hid (HI12.out.ext hgr)
    clear hgr
    rw [HDE.out]
    go_wp2_with fail
    refine callW (W0 := U) (g := g16) (by exact (by repeat (first | exact Below.refl _ _ | refine Ext.al ?_ _ | refine Ext.dr ?_ | refine Ext.drN ?_ _ | refine Ext.gr ?_ _ | refine Ext.set ?_ (by simp) _ | (refine Ext.trans' ?_ (by assumption))))) (intsL_any [1] [1] _ _ _ (HI9.out.ext (by exact (by repeat (first | exact Below.refl _ _ | refine Ext.al ?_ _ | refine Ext.dr ?_ | refine Ext.drN ?_ _ | refine Ext.gr ?_ _ | refine Ext.set ?_ (by simp) _ | (refine Ext.trans' ?_ (by assumption)))))) (isI1 (by simp [go_sem]) (by omega) (by omega))) fun g17 hgr => ?_
    replace HI1 := Lib.hid (HI1.out.ext hgr)
    replace HI2 := Lib.hid (HI2.out.ext hgr)
    replace HI5 := Lib.hid (HI5.out.ext hgr)
    replace HS8 := Lib.hid (HS8.out.ext hgr)
    replace HI9 := Lib.hid (HI9.out.ext hgr)
    replace HI10 := Lib.hid (HI10.out.ext hgr)
    replace HI12 := Lib.hid (HI12.out.ext hgr)
    clear hgr
    rw [show decide (([1] : List Int) = [1]) = true from rfl]
    go_wp2_with fail
    refine callW (W0 := U) (g := g17) (by exact (by repeat (first | exact Below.refl _ _ | refine Ext.al ?_ _ | refine Ext.dr ?_ | refine Ext.drN ?_ _ | refine Ext.gr ?_ _ | refine Ext.set ?_ (by simp) _ | (refine Ext.trans' ?_ (by assumption))))) (intsL_any [0, 1] [0, 1] _ _ _ (HI10.out.ext (by exact (by repeat (first | exact Below.refl _ _ | refine Ext.al ?_ _ | refine Ext.dr ?_ | refine Ext.drN ?_ _ | refine Ext.gr ?_ _ | refine Ext.set ?_ (by simp) _ | (refine Ext.trans' ?_ (by assumption)))))) (isI2 (by simp [go_sem]) (by simp [go_sem]) (by omega) (by omega))) fun g18 hgr => ?_
    replace HI1 := Lib.hid (HI1.out.ext hgr)
    replace HI2 := Lib.hid (HI2.out.ext hgr)
    replace HI5 := Lib.hid (HI5.out.ext hgr)
    replace HS8 := Lib.hid (HS8.out.ext hgr)
    replace HI9 := Lib.hid (HI9.out.ext hgr)
    replace HI10 := Lib.hid (HI10.out.ext hgr)
    replace HI12 := Lib.hid (HI12.out.ext hgr)
    clear hgr
    rw [show decide (([0, 1] : List Int) = [0, 1]) = true from rfl]
    go_wp2_with fail
    refine callW (W0 := U) (g := g18) (by exact (by repeat (first | exact Below.refl _ _ | refine Ext.al ?_ _ | refine Ext.dr ?_ | refine Ext.drN ?_ _ | refine Ext.gr ?_ _ | refine Ext.set ?_ (by simp) _ | (refine Ext.trans' ?_ (by assumption))))) (intsL_any [2, 0, 1, 0, 1, 0, 2, 0] [2, 0, 1, 0, 1, 0, 2, 0] _ _ _ (HI12.out.ext (by exact (by repeat (first | exact Below.refl _ _ | refine Ext.al ?_ _ | refine Ext.dr ?_ | refine Ext.drN ?_ _ | refine Ext.gr ?_ _ | refine Ext.set ?_ (by simp) _ | (refine Ext.trans' ?_ (by assumption)))))) (isI8 (by simp [go_sem]) (by simp [go_sem]) (by simp [go_sem]) (by simp [go_sem]) (by simp [go_sem]) (by simp [go_sem]) (by simp [go_sem]) (by simp [go_sem]) (by omega) (by omega))) fun g19 hgr => ?_
    replace HI1 := Lib.hid (HI1.out.ext hgr)
    replace HI2 := Lib.hid (HI2.out.ext hgr)
    replace HI5 := Lib.hid (HI5.out.ext hgr)
    replace HS8 := Lib.hid (HS8.out.ext hgr)
    replace HI9 := Lib.hid (HI9.out.ext hgr)
    replace HI10 := Lib.hid (HI10.out.ext hgr)
    replace HI12 := Lib.hid (HI12.out.ext hgr)
    clear hgr
    rw [show decide (([2, 0, 1, 0, 1, 0, 2, 0] : List Int) = [2, 0, 1, 0, 1, 0, 2, 0]) = true from rfl]
    go_wp2_with fail
    go_ret
    exact ⟨rfl, HW.out.trans' (grow_below U _)⟩
end Go.Proofs.Ytndgaklcnhoddaa
