/-
  The walk of the reference's CheckHall: it returns chk of the hall.
-/
import Derived.Test.YtgcldgchhdjnhaaHall
namespace Go.Proofs.Ytgcldgchhdjnhaa
open Go.RowKit

set_option maxHeartbeats 400000 in
theorem isRange_any (lo hi most : Int) (w : World) :
    Calls Try.prog 69 #[.agg #[.int .i64 lo, .int .i64 hi], .int .i64 most] w fun e w' => e = .returned (.bool (decide (0 ≤ lo) && decide (lo ≤ hi) && decide (hi ≤ most))) ∧ Ext w w' := by
  go_enter Try.func69, Try.ntmps69
  go_wp2
  all_goals
    go_ret
    exact ⟨ret_bool (by simp [*] <;> (intros; omega)), (by repeat (first | exact Below.refl _ _ | refine Ext.al ?_ _ | refine Ext.dr ?_ | refine Ext.drN ?_ _ | refine Ext.gr ?_ _ | refine Ext.set ?_ (by simp) _ | (refine Ext.trans' ?_ (by assumption))))⟩

def oddR (n : Int) (c : Cnt) : Bool := decide (c.f < 0) || decide (c.t < c.f) || decide (n ≤ c.t)
def badR (c : Cnt) : Bool := !(decide (0 ≤ c.lo) && decide (c.lo ≤ c.hi) && decide (c.hi ≤ 10000000))
theorem any_of_none {α : Type} {p : α → Bool} {l : List α} (h : ∀ x ∈ l, p x = false) : l.any p = false := by simpa using h
theorem any_of_at {α : Type} {p : α → Bool} {l : List α} {k : Nat} (hk : k < l.length) (h : p l[k] = true) : l.any p = true := by
  rw [List.any_eq_true]; exact ⟨_, List.getElem_mem hk, h⟩

theorem chk_two {h : Hall} (g1 : ¬ h.n < 1) (g2 : ¬ 10 < h.n) (g3 : ¬ 10 < h.cs.length) {k : Nat} (hk : k < h.cs.length) (hp : oddR h.n h.cs[k] = true) : 2 = chk h := by
  have := any_of_at hk hp
  unfold oddR at this
  simp [chk, g1, g2, g3, this]
theorem chk_three {h : Hall} (g1 : ¬ h.n < 1) (g2 : ¬ 10 < h.n) (g3 : ¬ 10 < h.cs.length) (hp : h.cs.any (oddR h.n) = false) (g4 : h.most < 0 ∨ 1000000 < h.most) : 3 = chk h := by
  unfold oddR at hp
  simp only [chk]
  rw [if_neg (by omega), hp, if_neg (by simp), if_pos g4]
theorem chk_four {h : Hall} (g1 : ¬ h.n < 1) (g2 : ¬ 10 < h.n) (g3 : ¬ 10 < h.cs.length) (hp : h.cs.any (oddR h.n) = false) (g4 : h.cs.any badR = true) : 3 = chk h := by
  unfold oddR at hp
  unfold badR at g4
  simp only [chk]
  rw [if_neg (by omega), hp, if_neg (by simp), g4, if_pos rfl]
  simp
theorem chk_five {h : Hall} (g1 : ¬ h.n < 1) (g2 : ¬ 10 < h.n) (g3 : ¬ 10 < h.cs.length) (hp : h.cs.any (oddR h.n) = false) (g4 : ¬ (h.most < 0 ∨ 1000000 < h.most)) (g5 : h.cs.any badR = false) : 0 = chk h := by
  unfold oddR at hp
  unfold badR at g5
  simp only [chk]
  rw [if_neg (by omega), hp, if_neg (by simp), if_neg g4, g5, if_neg (by simp)]
set_option maxHeartbeats 1000000 in
theorem checkHallR_any (h : Hall) (sv : Value) (w : World) (hs : IsCnts w sv h.cs) :
    Calls Try.prog 21 #[.agg #[.int .i64 h.n, .int .i64 h.most, sv]] w fun e w' => e = .returned (.int .i64 (chk h)) ∧ Ext w w' := by
  obtain ⟨sa, cap, rfl, hl1, hl2, hl3⟩ := hs.spec
  have HS := Lib.hid hs
  clear hs hl3
  by_cases g1 : h.n < 1
  · go_enter Try.func21, Try.ntmps21
    go_wp2
    go_ret
    exact ⟨ret_int (by simp [chk, g1]), (by repeat (first | exact Below.refl _ _ | refine Ext.al ?_ _ | refine Ext.dr ?_ | refine Ext.drN ?_ _ | refine Ext.gr ?_ _ | refine Ext.set ?_ (by simp) _ | (refine Ext.trans' ?_ (by assumption))))⟩
  by_cases g2 : 10 < h.n
  · go_enter Try.func21, Try.ntmps21
    go_wp2
    go_ret
    exact ⟨ret_int (by simp [chk, g2]), (by repeat (first | exact Below.refl _ _ | refine Ext.al ?_ _ | refine Ext.dr ?_ | refine Ext.drN ?_ _ | refine Ext.gr ?_ _ | refine Ext.set ?_ (by simp) _ | (refine Ext.trans' ?_ (by assumption))))⟩
  by_cases g3 : 10 < h.cs.length
  · have g3' : decide ((10 : Int) < (h.cs.length : Int)) = true := by simp; omega
    go_enter Try.func21, Try.ntmps21
    go_wp2
    go_ret
    exact ⟨ret_int (by simp [chk, g3]), (by repeat (first | exact Below.refl _ _ | refine Ext.al ?_ _ | refine Ext.dr ?_ | refine Ext.drN ?_ _ | refine Ext.gr ?_ _ | refine Ext.set ?_ (by simp) _ | (refine Ext.trans' ?_ (by assumption))))⟩
  have g3' : decide ((10 : Int) < (h.cs.length : Int)) = false := by simp; omega
  go_enter Try.func21, Try.ntmps21
  go_wp2
  go_loopw [3] (fun i W => ∃ k : Nat, k ≤ h.cs.length ∧ i = .int .i64 k ∧ (∀ x ∈ h.cs.take k, oddR h.n x = false) ∧ Ext (w.alloc (.cells #[.int .i64 h.n, .int .i64 h.most, .slice sa h.cs.length cap] 24)) W) (fun i _ => h.cs.length - (intOf i).toNat)
  case atStart => exact ⟨0, Nat.zero_le _, rfl, by simp, Below.refl _ _⟩
  case round =>
    obtain ⟨k, hk, rfl, hno, hb⟩ := hrel
    have HN := Lib.hid hno
    have k0 := cell_ext hb (a := ⟨w.heap.size, 0, none⟩) (v := .int .i64 h.n) (by simp [go_sem])
    have k1 := cell_ext hb (a := ⟨w.heap.size, 1, none⟩) (v := .int .i64 h.most) (by simp [go_sem])
    have k2 := cell_ext hb (a := ⟨w.heap.size, 2, none⟩) (v := .slice sa h.cs.length cap) (by simp [go_sem])
    have hz : w.heap.size < wr.heap.size := World.block_lt_of_cell? _ _ k0
    have HB := Lib.hid hb
    have HX := Lib.hid (Ext.trans' (Ext.al (Below.refl _ w) _) hb)
    clear hno hb
    by_cases hlt : k < h.cs.length
    · rcases (HS.out.ext HX.out).opened with e | ⟨b, off, rfl, hc⟩
      · simp [e] at hlt
      obtain ⟨c0, c1, c2, c3⟩ := hc k hlt
      have hbl : b < wr.heap.size := World.block_lt_of_cell? _ _ c0
      clear hc
      go_wp2
      all_goals first
        | (go_ret; exact ⟨ret_int (chk_two (by omega) (by omega) (by omega) hlt (by simp [oddR]; omega)), Ext.al HX.out _⟩)
        | (go_roundw
           case rel => exact ⟨k + 1, by omega, by go_num, take_ext hlt HN.out (by simp [oddR]; omega), Ext.al HB.out _⟩
           case measure => simp [intOf]; omega)
    · have HN2 := Lib.hid (any_of_none (take_all hlt HN.out))
      clear HN
      by_cases g4 : h.most < 0 ∨ 1000000 < h.most
      · have e4 : (decide (h.most < 0) || decide (1000000 < h.most)) = true := by simpa using g4
        go_wp2
        all_goals
          go_ret
          exact ⟨ret_int (chk_three (by omega) (by omega) (by omega) HN2.out (by omega)), HX.out⟩
      · have e4 : decide (h.most < 0) = false := by simp; omega
        have e5 : decide (1000000 < h.most) = false := by simp; omega
        go_wp2_with fail
        obtain ⟨w0, rfl⟩ : ∃ w0 : World, w0 = wr := ⟨_, rfl⟩
        go_loopw [5] (fun i W => ∃ k : Nat, k ≤ h.cs.length ∧ i = .int .i64 k ∧ (∀ x ∈ h.cs.take k, badR x = false) ∧ Ext w0 W) (fun i _ => h.cs.length - (intOf i).toNat)
        case atStart => exact ⟨0, Nat.zero_le _, rfl, by simp, Below.refl _ _⟩
        case round =>
          obtain ⟨k, hk, rfl, hno, hb⟩ := hrel
          have HN := Lib.hid hno
          replace k2 := cell_ext hb k2
          have HX2 := Lib.hid (Ext.trans' HX.out hb)
          have HB2 := Lib.hid hb
          clear hno hb
          by_cases hlt : k < h.cs.length
          · rcases (HS.out.ext HX2.out).opened with e | ⟨b, off, rfl, hc⟩
            · simp [e] at hlt
            obtain ⟨c0, c1, c2, c3⟩ := hc k hlt
            clear hc
            go_wp2_with fail
            refine (isRange_any h.cs[k].lo h.cs[k].hi 10000000 _).mono ?_
            rintro e W' ⟨rfl, hb'⟩
            cases hp : decide (0 ≤ h.cs[k].lo) && decide (h.cs[k].lo ≤ h.cs[k].hi) && decide (h.cs[k].hi ≤ 10000000)
            · go_wp2
              go_ret
              exact ⟨ret_int (chk_four (by omega) (by omega) (by omega) HN2.out (any_of_at hlt (by simp only [badR, hp]; rfl))), Ext.trans' HX2.out hb'⟩
            · go_wp2
              go_roundw
              case rel => exact ⟨k + 1, by omega, by go_num, take_ext hlt HN.out (by simp only [badR, hp]; rfl), Ext.trans' HB2.out hb'⟩
              case measure => simp [intOf]; omega
          · go_wp2
            go_ret
            exact ⟨ret_int (chk_five (by omega) (by omega) (by omega) HN2.out (by omega) (any_of_none (take_all hlt HN.out))), HX2.out⟩
end Go.Proofs.Ytgcldgchhdjnhaa
