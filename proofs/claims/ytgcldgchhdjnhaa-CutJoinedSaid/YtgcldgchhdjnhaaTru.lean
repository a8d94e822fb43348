/-
  Plain: truths and numbers of places that no step betters: each gives the other.
-/
import Derived.Test.YtgcldgchhdjnhaaMath
namespace Go.Proofs.Ytgcldgchhdjnhaa

/-- how many are sold before a place -/
def pre (t : List Int) (i : Nat) : Int := (t.take i).sum
theorem pre_succ {t : List Int} {i : Nat} (h : i < t.length) : pre t (i + 1) = pre t i + t[i] := by
  unfold pre
  exact sum_take_succ t i h
theorem drop_take_sum (t : List Int) (f k : Nat) : ((t.drop f).take k).sum = pre t (f + k) - pre t f := by
  unfold pre
  have : t.take (f + k) = t.take f ++ (t.drop f).take k := by rw [List.take_add]
  rw [this, List.sum_append]
  omega
theorem sm_pre {t : List Int} {f to : Int} (h0 : 0 ≤ f) (h1 : f ≤ to + 1) : sm t f to = pre t (to + 1).toNat - pre t f.toNat := by
  unfold sm
  rw [drop_take_sum]
  have : f.toNat + (to + 1 - f).toNat = (to + 1).toNat := by omega
  rw [this]
theorem pre_diff (d : Nat → Int) (N : Nat) : ∀ i, i ≤ N → pre ((List.range N).map fun j => d (j + 1) - d j) i = d i - d 0
  | 0, _ => by simp [pre]
  | i + 1, h => by
    rw [pre_succ (by simp; omega), pre_diff d N i (by omega)]
    simp
    omega
theorem inR_iff (lo hi n : Int) : inR lo hi n = true ↔ lo ≤ n ∧ n ≤ hi := by
  unfold inR
  simp
/-- a truth, said without errors -/
structure IsTruth (h : Hall) (t : List Int) : Prop where
  len : (t.length : Int) = h.n
  all : ∀ x ∈ t, 0 ≤ x ∧ x ≤ h.most
  cnt : ∀ c ∈ h.cs, c.lo ≤ sm t c.f c.t ∧ sm t c.f c.t ≤ c.hi
theorem truthE_iff {h : Hall} {t : List Int} : truthE h t = 0 ↔ chk h = 0 ∧ IsTruth h t := by
  unfold truthE
  by_cases hc : chk h = 0
  · rw [if_neg (show ¬ (chk h ≠ 0) from fun hh => hh hc)]
    by_cases hl : (t.length : Int) = h.n
    · rw [if_neg (show ¬ ((t.length : Int) ≠ h.n) from fun hh => hh hl)]
      cases ha : t.all (inR 0 h.most) with
      | false =>
        rw [if_pos rfl]
        refine ⟨fun hh => by omega, fun ⟨_, i⟩ => ?_⟩
        have : t.all (inR 0 h.most) = true := List.all_eq_true.2 fun x hx => (inR_iff _ _ _).2 (i.all x hx)
        rw [this] at ha; cases ha
      | true =>
        rw [if_neg (by simp)]
        cases hcs : h.cs.any (offC t) with
        | true =>
          rw [if_pos rfl]
          refine ⟨fun hh => by omega, fun ⟨_, i⟩ => ?_⟩
          obtain ⟨c, hc1, hc2⟩ := List.any_eq_true.1 hcs
          have := (inR_iff _ _ _).2 (i.cnt c hc1)
          unfold offC at hc2
          rw [this] at hc2; cases hc2
        | false =>
          rw [if_neg (by simp)]
          refine ⟨fun _ => ⟨hc, hl, fun x hx => (inR_iff _ _ _).1 (List.all_eq_true.1 ha x hx), fun c hcc => ?_⟩, fun _ => rfl⟩
          have := List.any_eq_false.1 hcs c hcc
          unfold offC at this
          exact (inR_iff _ _ _).1 (by simpa using this)
    · rw [if_pos hl]
      exact ⟨fun hh => by omega, fun ⟨_, i⟩ => absurd i.len hl⟩
  · rw [if_pos hc]
    exact ⟨fun hh => absurd hh hc, fun ⟨hh, _⟩ => absurd hh hc⟩
theorem pot_cnt {h : Hall} {d : Nat → Int} (p : Pot h d) {c : Cnt} (hc : c ∈ h.cs) : c.lo ≤ d (c.t + 1).toNat - d c.f.toNat ∧ d (c.t + 1).toNat - d c.f.toNat ≤ c.hi := by
  obtain ⟨i, hi, rfl⟩ := List.getElem_of_mem hc
  have ok : ∀ b, okStp h ⟨false, i, b⟩ = true := fun b => by simp [okStp]; omega
  have p1 := p _ (ok false)
  have p2 := p _ (ok true)
  simp [src, dst, cost, stpC, hi] at p1 p2
  omega
theorem pot_win {h : Hall} {d : Nat → Int} (p : Pot h d) {i : Nat} (hi : (i : Int) < h.n) : 0 ≤ d (i + 1) - d i ∧ d (i + 1) - d i ≤ h.most := by
  have p1 := p _ (okWin hi false)
  have p2 := p _ (okWin hi true)
  simp [src, dst, cost, stpC] at p1 p2
  have e : ((i : Int) + 1).toNat = i + 1 := by omega
  omega
section
variable {h : Hall} (v : Valid h)
include v
theorem truth_of_pot {d : Nat → Int} (p : Pot h d) : IsTruth h ((List.range h.n.toNat).map fun j => d (j + 1) - d j) := by
  have n1 := v.n1
  refine ⟨by simp; omega, fun x hx => ?_, fun c hc => ?_⟩
  · obtain ⟨j, hj, rfl⟩ := List.mem_map.1 hx
    have := List.mem_range.1 hj
    exact pot_win p (by omega)
  · have hcv := v.cs c hc
    have := pot_cnt p hc
    rw [sm_pre (by omega) (by omega), pre_diff _ _ _ (by omega), pre_diff _ _ _ (by omega)]
    omega
theorem pot_of_truth {t : List Int} (i : IsTruth h t) : Pot h (pre t) := by
  intro x o
  have hlen := i.len
  have hin := stpC_ok v o
  have key : (stpC h x).lo ≤ sm t (stpC h x).f (stpC h x).t ∧ sm t (stpC h x).f (stpC h x).t ≤ (stpC h x).hi := by
    unfold okStp at o
    unfold stpC at hin ⊢
    by_cases hw : x.win = true
    · rw [if_pos hw] at o hin ⊢
      simp only [Bool.and_eq_true, decide_eq_true_eq] at o hin
      obtain ⟨k, hk⟩ : ∃ k : Nat, x.idx = k := ⟨x.idx.toNat, by omega⟩
      have hkl : k < t.length := by omega
      have := i.all t[k] (List.getElem_mem hkl)
      simp only
      rw [sm_pre (by omega) (by omega), hk, show ((k : Int) + 1).toNat = k + 1 by omega, pre_succ hkl]
      simp only [Int.toNat_natCast]
      omega
    · rw [if_neg hw] at o hin ⊢
      simp only [Bool.and_eq_true, decide_eq_true_eq] at o
      have hl : x.idx.toNat < h.cs.length := by omega
      have e : h.cs.getD x.idx.toNat ⟨0, 0, 0, 0⟩ = h.cs[x.idx.toNat] := by simp [List.getD, hl]
      rw [e]
      exact i.cnt _ (List.getElem_mem hl)
  rw [sm_pre (by omega) (by omega)] at key
  unfold src dst cost
  split <;> omega
end
theorem truthM_ok {h : Hall} (hc : chk h = 0) (e : (leastM h 0).2 = true) : truthE h (truthM h) = 0 := by
  have v := valid_of_chk hc
  exact truthE_iff.2 ⟨hc, truth_of_pot v (pot_of_agree v (st := 0) (by have := v.n1; omega) e)⟩
theorem truthL_ok {h : Hall} (e : truthErr h = 0) : truthE h (truthL h) = 0 := by
  unfold truthL
  rw [if_pos e]
  unfold truthErr at e
  by_cases hc : chk h = 0
  · rw [if_neg (show ¬ (chk h ≠ 0) from fun hh => hh hc)] at e
    refine truthM_ok hc ?_
    cases hl : (leastM h 0).2 with
    | true => rfl
    | false => rw [hl] at e; simp at e
  · rw [if_pos hc] at e; exact absurd e hc
theorem agr_truth {h : Hall} (v : Valid h) : Agr h ↔ ∃ t, IsTruth h t :=
  ⟨fun ⟨_, p⟩ => ⟨_, truth_of_pot v p⟩, fun ⟨_, i⟩ => ⟨_, pot_of_truth v i⟩⟩
end Go.Proofs.Ytgcldgchhdjnhaa
