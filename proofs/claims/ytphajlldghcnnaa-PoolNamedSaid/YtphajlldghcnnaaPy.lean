/-
 The laws' helper pence: the dividend of a winner, 0 if there is none.
 Plain: more Carried, more Duty, a Step of 1: what becomes of dividends and of what is paid.
-/
import Derived.Test.YtphajlldghcnnaaPm
import Derived.Test.YtphajlldghcnnaaPw
import Derived.Test.YtphajlldghcnnaaPu
namespace Go.Proofs.Ytphajlldghcnnaa
open Go.RowKit Go.Shelf
def penceF (D : List Dvd) (s : Spt) : Int := match D.find? fun d => decide (d.1 = s) with
 | some d => d.2
 | none => 0
theorem penceF_hit {D : List Dvd} {s : Spt} {k : Nat} (hk : k < D.length) (hno : ∀ d ∈ D.take k, d.1 ≠ s) (h : D[k].1 = s) : penceF D s = D[k].2 := by
 have e : D = D.take k ++ D[k] :: D.drop (k + 1) := by rw [List.getElem_cons_drop, List.take_append_drop]
 have e2 : (D.find? fun d => decide (d.1 = s)) = some D[k] := by
  rw [List.find?_eq_some_iff_append]
  exact ⟨by simpa using h, _, _, e, fun d hd => by simpa using hno d hd⟩
 unfold penceF
 rw [e2]
theorem penceF_none {D : List Dvd} {s : Spt} (hno : ∀ d ∈ D, d.1 ≠ s) : penceF D s = 0 := by
 have e2 : (D.find? fun d => decide (d.1 = s)) = none := List.find?_eq_none.2 fun d hd => by simpa using hno d hd
 unfold penceF
 rw [e2]
theorem penceF_div {b : Bk} {fs : List (List Int)} {s : Spt} (h : s ∈ backedL b fs) : penceF (divP b fs) s = penceP b fs s := by
 unfold penceF divP
 rw [find_pence, if_pos h]
set_option maxRecDepth 100000 in
set_option maxHeartbeats 2000000 in
theorem penceL_any (D : List Dvd) (p q : Int) (v : Value) (w : World) (hv : IsRows w 3 v (D.map divRow)) : Calls Try.prog 48 #[v, .int .i64 p, .int .i64 q] w fun e w' => e = .returned (.int .i64 (penceF D (p, q))) ∧ Ext w w' := by
 obtain ⟨va, cap, rfl, h1, h2, hc⟩ := dvd_cells hv
 have HC := Lib.hid hc
 clear hc hv
 go_enter Try.func48, Try.ntmps48
 go_wp2_with fail
 go_loopw [7] (fun iv W => ∃ k : Nat, k ≤ D.length ∧ iv = .int .i64 k ∧ (∀ d ∈ D.take k, d.1 ≠ (p, q)) ∧ Ext w W) (fun iv _ => D.length - (intOf iv).toNat)
 case atStart => exact ⟨0, by omega, rfl, by simp, Below.refl _ _⟩
 case round =>
  obtain ⟨k, hk, rfl, hno, hE⟩ := hrel
  have HE := Lib.hid hE
  have HNO := Lib.hid hno
  by_cases hlt : k < D.length
  ·have hki : (k : Int) < (D.length : Int) := by omega
   obtain ⟨sb, off, rfl, hcc⟩ := HC.out k hlt
   obtain ⟨d0, d1, d2, hzd⟩ := hcc wr hE
   have hhit := fun h => penceF_hit hlt hno (s := (p, q)) h
   have hmiss : D[k].1 ≠ (p, q) → ∀ d ∈ D.take (k + 1), d.1 ≠ (p, q) := fun h d hd => by
    rw [List.take_add_one, List.getElem?_eq_getElem hlt] at hd
    rcases List.mem_append.1 hd with hd | hd
    ·exact hno d hd
    ·simp at hd; rw [hd]; exact h
   obtain ⟨x, hx⟩ : ∃ x, x = D[k] := ⟨_, rfl⟩
   rw [← hx] at d0 d1 d2 hhit hmiss
   obtain ⟨⟨x1, x2⟩, x3⟩ := x
   simp only at d0 d1 d2 hhit hmiss
   have HH := Lib.hid hhit
   have HM := Lib.hid hmiss
   clear hx hcc hno hE hhit hmiss
   by_cases ha : x1 = p
   ·have hab : (x1 == p) = true := by simpa using ha
    by_cases hb : x2 = q
    ·have hbb : (x2 == q) = true := by simpa using hb
     have HR : Hid (penceF D (p, q) = x3) := Lib.hid (HH.out (by rw [ha, hb]))
     clear ha hb
     go_wp2_with fail
     go_ret
     exact ⟨by rw [HR.out]; rfl, HE.out⟩
    ·have hbb : (x2 == q) = false := by simpa using hb
     have HR := Lib.hid (HM.out fun h => hb (Prod.mk.inj h).2)
     clear ha hb
     go_wp2_with fail
     go_roundw
     case rel => exact ⟨k + 1, by omega, by go_num, HR.out, HE.out⟩
     case measure => simp [intOf]; omega
   ·have hab : (x1 == p) = false := by simpa using ha
    have HR := Lib.hid (HM.out fun h => ha (Prod.mk.inj h).1)
    clear ha
    go_wp2_with fail
    go_roundw
    case rel => exact ⟨k + 1, by omega, by go_num, HR.out, HE.out⟩
    case measure => simp [intOf]; omega
  ·have hki : ¬ ((k : Int) < (D.length : Int)) := by omega
   have hke : k = D.length := by omega
   rw [hke, List.take_length] at hno
   have HR := Lib.hid (penceF_none hno)
   clear hno hE hke
   go_wp2_with fail
   go_ret
   exact ⟨by rw [HR.out]; rfl, HE.out⟩
end Go.Proofs.Ytphajlldghcnnaa
namespace Go.Proofs.Ytphajlldghcnnaa
def carB (b : Bk) (c : Int) : Bk := { b with car := c }
def dutB (b : Bk) (c : Int) : Bk := { b with duty := c }
def stpB (b : Bk) : Bk := { b with step := 1 }
theorem BVal.car' {b : Bk} (v : BVal b) {c : Int} (h : 0 ≤ c ∧ c ≤ 1000000) : BVal (carB b c) := ⟨v.kd, v.n, h, v.duty, v.step, v.many, v.odd, v.left, v.scr, v.inc⟩
theorem BVal.dut' {b : Bk} (v : BVal b) {c : Int} (h : 0 ≤ c ∧ c ≤ 500) : BVal (dutB b c) := ⟨v.kd, v.n, v.car, h, v.step, v.many, v.odd, v.left, v.scr, v.inc⟩
theorem BVal.stp' {b : Bk} (v : BVal b) : BVal (stpB b) := ⟨v.kd, v.n, v.car, v.duty, ⟨Int.le_refl _, (by decide : (1 : Int) ≤ 100)⟩, v.many, v.odd, v.left, v.scr, v.inc⟩
theorem bkErr_of {b : Bk} (v : BVal b) : bkErr b = 0 := by
 unfold bkErr
 rw [if_neg (by rw [inR_iff.2 v.kd]; simp), if_neg (by rw [inR_iff.2 v.n, inR_iff.2 v.car, inR_iff.2 v.duty, inR_iff.2 v.step]; simp), if_neg (by have := v.many; omega), if_neg, if_neg]
 ·rw [not_or, not_or]
  refine ⟨by have := v.left; omega, ?_, by rw [v.inc]; simp⟩
  rw [Bool.not_eq_false, List.all_eq_true]
  exact fun r hr => isRun_iff.2 (v.scr r hr)
 ·rw [List.any_eq_true]
  rintro ⟨x, hx, h⟩
  rw [v.odd x hx] at h
  cases h
theorem FinV.re {b c : Bk} {fs : List (List Int)} (h : FinV b fs) (v : BVal c) (e : runL c = runL b) : FinV c fs := ⟨v, by rw [e]; exact h.perm, h.ne, h.up⟩
theorem net_car (b : Bk) (c : Int) : netP (carB b c) = netP b + (c - b.car) := by
 have e1 : inP (carB b c) = c + sumB (fun x => 100 * x.u) b.bets := rfl
 have e2 : inP b = b.car + sumB (fun x => 100 * x.u) b.bets := rfl
 have e3 : backP (carB b c) = backP b := rfl
 have e4 : dutyP (carB b c) = dutyP b := by
  unfold dutyP
  have : inP (carB b c) - backP (carB b c) - (carB b c).car = inP b - backP b - b.car := by
   rw [e1, e2, e3]
   have : (carB b c).car = c := rfl
   omega
  rw [this]; rfl
 unfold netP
 rw [e1, e2, e3, e4]
 omega
theorem net_dut {b : Bk} (v : BVal b) {c : Int} (h : b.duty ≤ c) : netP (dutB b c) ≤ netP b := by
 obtain ⟨h1, h2, h3, h4, -, -⟩ := net_bd v
 have e1 : inP (dutB b c) = inP b := rfl
 have e3 : backP (dutB b c) = backP b := rfl
 have e4 : dutyP b ≤ dutyP (dutB b c) := by
  have e : dutyP (dutB b c) = (inP b - backP b - b.car) * c / 1000 := rfl
  rw [e]
  unfold dutyP
  exact Int.ediv_le_ediv (by omega) (Int.mul_le_mul_of_nonneg_left h (by omega))
 unfold netP
 rw [e1, e3]
 omega
theorem share_le {b c : Bk} {fs gs : List (List Int)} (hl : (backedL b fs).length ≤ (backedL c gs).length) (h0 : 0 ≤ netP c) (hn : netP c ≤ netP b) (hp : 0 < (backedL b fs).length) : shareP c gs ≤ shareP b fs := by
 unfold shareP
 refine Int.le_trans (Int.ediv_le_ediv (by omega) hn) ?_
 rw [Int.le_ediv_iff_mul_le (by omega)]
 have h1 : netP b / ((backedL c gs).length : Int) * ((backedL b fs).length : Int) ≤ netP b / ((backedL c gs).length : Int) * ((backedL c gs).length : Int) := Int.mul_le_mul_of_nonneg_left (by omega) (Int.ediv_nonneg (by omega) (by omega))
 have h2 := Int.ediv_mul_le (netP b) (show ((backedL c gs).length : Int) ≠ 0 by omega)
 omega
theorem pence_mono {S T u st : Int} (hu : 0 ≤ u) (hst : 1 ≤ st) (h : S ≤ T) : S / (u * st) * st ≤ T / (u * st) * st := by
 by_cases h0 : u = 0
 ·subst h0; simp
 ·have : 0 < u * st := Int.mul_pos (by omega) (by omega)
  exact Int.mul_le_mul_of_nonneg_right (Int.ediv_le_ediv this h) (by omega)
theorem back_car (b : Bk) (c : Int) (fs : List (List Int)) : backedL (carB b c) fs = backedL b fs := rfl
theorem back_dut (b : Bk) (c : Int) (fs : List (List Int)) : backedL (dutB b c) fs = backedL b fs := rfl
theorem back_stp (b : Bk) (fs : List (List Int)) : backedL (stpB b) fs = backedL b fs := rfl
theorem pence_car {b : Bk} (v : BVal b) {c : Int} (h : b.car ≤ c) (fs : List (List Int)) {s : Spt} (hs : s ∈ backedL b fs) : penceP b fs s ≤ penceP (carB b c) fs s := by
 have hn := (net_bd v).2.2.2.1
 have hc := v.car
 have e : shareP b fs ≤ shareP (carB b c) fs := share_le (by rw [back_car]; exact Nat.le_refl _) (by omega) (by rw [net_car]; omega) (by rw [back_car]; exact List.length_pos_of_mem hs)
 have hu := units_bd' v s
 exact pence_mono (u := unitsP b s) (st := b.step) hu.1 v.step.1 e
theorem pence_dut {b : Bk} (v : BVal b) {c : Int} (h : b.duty ≤ c ∧ c ≤ 500) (fs : List (List Int)) {s : Spt} (hs : s ∈ backedL b fs) : penceP (dutB b c) fs s ≤ penceP b fs s := by
 have hd := v.duty
 have v2 : BVal (dutB b c) := v.dut' ⟨by omega, h.2⟩
 have hn := (net_bd v2).2.2.2.1
 have hc := v2.car
 have e : shareP (dutB b c) fs ≤ shareP b fs := share_le (by rw [back_dut]; exact Nat.le_refl _) (by omega) (net_dut v h.1) (List.length_pos_of_mem hs)
 have hu := units_bd' v s
 exact pence_mono (u := unitsP b s) (st := b.step) hu.1 v.step.1 e
theorem pence_stp {b : Bk} {fs : List (List Int)} (h : FinV b fs) {s : Spt} (hs : s ∈ backedL b fs) : penceP b fs s ≤ penceP (stpB b) fs s := by
 have e : penceP (stpB b) fs s = shareP b fs / (unitsP b s * 1) * 1 := rfl
 rw [e, Int.mul_one, Int.mul_one]
 have hp := pence_le h hs
 have hu := units_bd' h.book s
 have hu0 : unitsP b s ≠ 0 := by
  unfold backedL at hs
  simpa using (List.mem_filter.1 hs).2
 rw [Int.le_ediv_iff_mul_le (by omega)]
 exact hp.2.2.2.1
theorem paid_stp {b : Bk} {fs : List (List Int)} (h : FinV b fs) : paidP b fs ≤ paidP (stpB b) fs := by
 have key : ∀ l : List Spt, (∀ s ∈ l, s ∈ backedL b fs) → ((l.map fun s => (s, penceP b fs s)).map fun d => d.2 * unitsP b d.1).sum ≤ ((l.map fun s => (s, penceP (stpB b) fs s)).map fun d => d.2 * unitsP b d.1).sum := by
  intro l
  induction l with
  | nil => intro _; simp
  | cons s l ih =>
   intro hs
   have h1 := ih fun x hx => hs x (by simp [hx])
   have h2 := pence_stp h (hs s (by simp))
   have h3 := Int.mul_le_mul_of_nonneg_right h2 (units_bd' h.book s).1
   simp only [List.map_cons, List.sum_cons]
   omega
 exact key (backedL b fs) fun s hs => hs
theorem div_len_eq {b c : Bk} {fs : List (List Int)} (h : backedL b fs = backedL c fs) : (divP b fs).length = (divP c fs).length := by
 unfold divP
 rw [List.length_map, List.length_map, h]
end Go.Proofs.Ytphajlldghcnnaa
