/-
  Plain: truths and numbers of places that no step betters: each gives the other.
  Plain: what a span is: between its ends, and between no others, lie the tickets of windows in truths; halls with one more counter, or with others that ask more.
  Plain: numbers of places that no step betters, by windows and counters; halls turned about, with counters narrower, in another order, with a window more.
  Plain: rings are apart, as the program marks counters, just if no counter is used by two of them, as the reference counts.
  Plain: which counters can be wrong: it depends on which sets of them leave the others in agreement, and on nothing else; halls turned about.
  Plain: sets of counters as bits, and as increasing lists.
  Plain: the lists of counters in their order; the same lists as bits.
  Plain: the lists of the fewest counters, found by trying all sets of bits, are the same ones.
  Plain: counters in another order.
  Plain: a hall with its counters in another order has the same fewest wrong ones.
-/
import Derived.Test.YtgcldgchhdjnhaaMath
namespace Go.Proofs.Ytgcldgchhdjnhaa

/-- how many are sold before a place -/
def pre (t : List Int) (i : Nat) : Int := (t.take i).sum
theorem pre_succ {t : List Int} {i : Nat} (h : i < t.length) : pre t (i + 1) = pre t i + t[i] := by
  unfold pre
  exact sum_take_succ t i h
theorem drop_take_sum (t : List Int) (f k : Nat) : ((t.drop f).take k).sum = pre t (f + k) - pre t f := by
  unfold pre
  have : t.take (f + k) = t.take f ++ (t.drop f).take k := by rw [List.take_add]
  rw [this, List.sum_append]
  omega
theorem sm_pre {t : List Int} {f to : Int} (h0 : 0 ≤ f) (h1 : f ≤ to + 1) : sm t f to = pre t (to + 1).toNat - pre t f.toNat := by
  unfold sm
  rw [drop_take_sum]
  have : f.toNat + (to + 1 - f).toNat = (to + 1).toNat := by omega
  rw [this]
theorem pre_diff (d : Nat → Int) (N : Nat) : ∀ i, i ≤ N → pre ((List.range N).map fun j => d (j + 1) - d j) i = d i - d 0
  | 0, _ => by simp [pre]
  | i + 1, h => by
    rw [pre_succ (by simp; omega), pre_diff d N i (by omega)]
    simp
    omega
theorem inR_iff (lo hi n : Int) : inR lo hi n = true ↔ lo ≤ n ∧ n ≤ hi := by
  unfold inR
  simp
/-- a truth, said without errors -/
structure IsTruth (h : Hall) (t : List Int) : Prop where
  len : (t.length : Int) = h.n
  all : ∀ x ∈ t, 0 ≤ x ∧ x ≤ h.most
  cnt : ∀ c ∈ h.cs, c.lo ≤ sm t c.f c.t ∧ sm t c.f c.t ≤ c.hi
theorem truthE_iff {h : Hall} {t : List Int} : truthE h t = 0 ↔ chk h = 0 ∧ IsTruth h t := by
  unfold truthE
  by_cases hc : chk h = 0
  · rw [if_neg (show ¬ (chk h ≠ 0) from fun hh => hh hc)]
    by_cases hl : (t.length : Int) = h.n
    · rw [if_neg (show ¬ ((t.length : Int) ≠ h.n) from fun hh => hh hl)]
      cases ha : t.all (inR 0 h.most) with
      | false =>
        rw [if_pos rfl]
        refine ⟨fun hh => by omega, fun ⟨_, i⟩ => ?_⟩
        have : t.all (inR 0 h.most) = true := List.all_eq_true.2 fun x hx => (inR_iff _ _ _).2 (i.all x hx)
        rw [this] at ha; cases ha
      | true =>
        rw [if_neg (by simp)]
        cases hcs : h.cs.any (offC t) with
        | true =>
          rw [if_pos rfl]
          refine ⟨fun hh => by omega, fun ⟨_, i⟩ => ?_⟩
          obtain ⟨c, hc1, hc2⟩ := List.any_eq_true.1 hcs
          have := (inR_iff _ _ _).2 (i.cnt c hc1)
          unfold offC at hc2
          rw [this] at hc2; cases hc2
        | false =>
          rw [if_neg (by simp)]
          refine ⟨fun _ => ⟨hc, hl, fun x hx => (inR_iff _ _ _).1 (List.all_eq_true.1 ha x hx), fun c hcc => ?_⟩, fun _ => rfl⟩
          have := List.any_eq_false.1 hcs c hcc
          unfold offC at this
          exact (inR_iff _ _ _).1 (by simpa using this)
    · rw [if_pos hl]
      exact ⟨fun hh => by omega, fun ⟨_, i⟩ => absurd i.len hl⟩
  · rw [if_pos hc]
    exact ⟨fun hh => absurd hh hc, fun ⟨hh, _⟩ => absurd hh hc⟩
theorem pot_cnt {h : Hall} {d : Nat → Int} (p : Pot h d) {c : Cnt} (hc : c ∈ h.cs) : c.lo ≤ d (c.t + 1).toNat - d c.f.toNat ∧ d (c.t + 1).toNat - d c.f.toNat ≤ c.hi := by
  obtain ⟨i, hi, rfl⟩ := List.getElem_of_mem hc
  have ok : ∀ b, okStp h ⟨false, i, b⟩ = true := fun b => by simp [okStp]; omega
  have p1 := p _ (ok false)
  have p2 := p _ (ok true)
  simp [src, dst, cost, stpC, hi] at p1 p2
  omega
theorem pot_win {h : Hall} {d : Nat → Int} (p : Pot h d) {i : Nat} (hi : (i : Int) < h.n) : 0 ≤ d (i + 1) - d i ∧ d (i + 1) - d i ≤ h.most := by
  have p1 := p _ (okWin hi false)
  have p2 := p _ (okWin hi true)
  simp [src, dst, cost, stpC] at p1 p2
  have e : ((i : Int) + 1).toNat = i + 1 := by omega
  omega
section
variable {h : Hall} (v : Valid h)
include v
theorem truth_of_pot {d : Nat → Int} (p : Pot h d) : IsTruth h ((List.range h.n.toNat).map fun j => d (j + 1) - d j) := by
  have n1 := v.n1
  refine ⟨by simp; omega, fun x hx => ?_, fun c hc => ?_⟩
  · obtain ⟨j, hj, rfl⟩ := List.mem_map.1 hx
    have := List.mem_range.1 hj
    exact pot_win p (by omega)
  · have hcv := v.cs c hc
    have := pot_cnt p hc
    rw [sm_pre (by omega) (by omega), pre_diff _ _ _ (by omega), pre_diff _ _ _ (by omega)]
    omega
theorem pot_of_truth {t : List Int} (i : IsTruth h t) : Pot h (pre t) := by
  intro x o
  have hlen := i.len
  have hin := stpC_ok v o
  have key : (stpC h x).lo ≤ sm t (stpC h x).f (stpC h x).t ∧ sm t (stpC h x).f (stpC h x).t ≤ (stpC h x).hi := by
    unfold okStp at o
    unfold stpC at hin ⊢
    by_cases hw : x.win = true
    · rw [if_pos hw] at o hin ⊢
      simp only [Bool.and_eq_true, decide_eq_true_eq] at o hin
      obtain ⟨k, hk⟩ : ∃ k : Nat, x.idx = k := ⟨x.idx.toNat, by omega⟩
      have hkl : k < t.length := by omega
      have := i.all t[k] (List.getElem_mem hkl)
      simp only
      rw [sm_pre (by omega) (by omega), hk, show ((k : Int) + 1).toNat = k + 1 by omega, pre_succ hkl]
      simp only [Int.toNat_natCast]
      omega
    · rw [if_neg hw] at o hin ⊢
      simp only [Bool.and_eq_true, decide_eq_true_eq] at o
      have hl : x.idx.toNat < h.cs.length := by omega
      have e : h.cs.getD x.idx.toNat ⟨0, 0, 0, 0⟩ = h.cs[x.idx.toNat] := by simp [List.getD, hl]
      rw [e]
      exact i.cnt _ (List.getElem_mem hl)
  rw [sm_pre (by omega) (by omega)] at key
  unfold src dst cost
  split <;> omega
end
theorem truthM_ok {h : Hall} (hc : chk h = 0) (e : (leastM h 0).2 = true) : truthE h (truthM h) = 0 := by
  have v := valid_of_chk hc
  exact truthE_iff.2 ⟨hc, truth_of_pot v (pot_of_agree v (st := 0) (by have := v.n1; omega) e)⟩
theorem truthL_ok {h : Hall} (e : truthErr h = 0) : truthE h (truthL h) = 0 := by
  unfold truthL
  rw [if_pos e]
  unfold truthErr at e
  by_cases hc : chk h = 0
  · rw [if_neg (show ¬ (chk h ≠ 0) from fun hh => hh hc)] at e
    refine truthM_ok hc ?_
    cases hl : (leastM h 0).2 with
    | true => rfl
    | false => rw [hl] at e; simp at e
  · rw [if_pos hc] at e; exact absurd e hc
theorem agr_truth {h : Hall} (v : Valid h) : Agr h ↔ ∃ t, IsTruth h t :=
  ⟨fun ⟨_, p⟩ => ⟨_, truth_of_pot v p⟩, fun ⟨_, i⟩ => ⟨_, pot_of_truth v i⟩⟩
end Go.Proofs.Ytgcldgchhdjnhaa
namespace Go.Proofs.Ytgcldgchhdjnhaa

/-- least sums between two places of a hall whose counters agree -/
def ds (h : Hall) (a b : Nat) : Int := (leastM h a).1.sums b
section
variable {h : Hall} (v : Valid h) (g : Agr h)
include v g
theorem agr_st (a : Nat) : (leastM h a).2 = true := by
  obtain ⟨d, p⟩ := g
  exact agree_of_pot v p a
theorem ds_pot {a : Nat} (ha : (a : Int) ≤ h.n) : Pot h (ds h a) := (leastM_low v ha (agr_st v g a)).pot
theorem ds_self {a : Nat} (ha : (a : Int) ≤ h.n) : ds h a a = 0 := (leastM_low v ha (agr_st v g a)).st0
/-- no potential rises by more -/
theorem ds_le {d : Nat → Int} (p : Pot h d) {a b : Nat} (ha : (a : Int) ≤ h.n) (hb : (b : Int) ≤ h.n) : d b ≤ d a + ds h a b := by
  obtain ⟨K, _, _, hw, hs⟩ := (leastM_low v ha (agr_st v g a)).chain b hb
  have := p.way hw
  rw [hs] at this
  simpa [ds] using this
theorem ds_tri {a b c : Nat} (ha : (a : Int) ≤ h.n) (hb : (b : Int) ≤ h.n) (hc : (c : Int) ≤ h.n) : ds h a c ≤ ds h a b + ds h b c := ds_le v g (ds_pot v g ha) hb hc
theorem ds_back {a b : Nat} (ha : (a : Int) ≤ h.n) (hb : (b : Int) ≤ h.n) : 0 ≤ ds h a b + ds h b a := by
  have h1 := ds_tri v g ha hb ha
  have h2 := ds_self v g ha
  omega
theorem way_ge {a b : Nat} (ha : (a : Int) ≤ h.n) {l : List Stp} (w : IsW h a l b) : ds h a b ≤ (l.map (cost h)).sum := by
  have h1 := (ds_pot v g ha).way w
  have h2 := ds_self v g ha
  simp only [Int.toNat_natCast] at h1
  omega
/-- each number between the ends is had -/
theorem ds_mid {a b : Nat} (ha : (a : Int) ≤ h.n) (hb : (b : Int) ≤ h.n) {n : Int} (h1 : -(ds h b a) ≤ n) (h2 : n ≤ ds h a b) : ∃ d, Pot h d ∧ d b - d a = n := by
  have pa := ds_pot v g ha
  have pb := ds_pot v g hb
  refine ⟨fun i => min (ds h a i) (ds h b i + n), fun x o => ?_, ?_⟩
  · have q1 := pa x o
    have q2 := pb x o
    simp only
    omega
  · have q1 := ds_self v g ha
    have q2 := ds_self v g hb
    simp only
    omega
end
/-- a hall whose potentials are another one's, as far as two places go: its span there is within -/
theorem ds_sub {h x : Hall} (v : Valid h) (vx : Valid x) (gx : Agr x) {a b a' b' : Nat} (ha : (a : Int) ≤ h.n) (hb : (b : Int) ≤ h.n) (ha' : (a' : Int) ≤ x.n) (_ : (b' : Int) ≤ x.n)
    (hs : ∀ d, Pot x d → ∃ d', Pot h d' ∧ d' b - d' a = d b' - d a') : Agr h ∧ ds x a' b' ≤ ds h a b := by
  have px := ds_pot vx gx ha'
  obtain ⟨d', p, e⟩ := hs _ px
  have g : Agr h := ⟨d', p⟩
  have h1 := ds_le v g p ha hb
  have h2 := ds_self vx gx ha'
  exact ⟨g, by omega⟩
/-- a hall with one more counter -/
def withH (h : Hall) (c : Cnt) : Hall := { h with cs := h.cs ++ [c] }
theorem pot_with {h : Hall} {c : Cnt} {d : Nat → Int} : Pot (withH h c) d ↔ Pot h d ∧ c.lo ≤ d (c.t + 1).toNat - d c.f.toNat ∧ d (c.t + 1).toNat - d c.f.toNat ≤ c.hi := by
  have hl : (withH h c).cs.length = h.cs.length + 1 := by simp [withH]
  have same : ∀ x : Stp, okStp h x = true → okStp (withH h c) x = true ∧ stpC (withH h c) x = stpC h x := fun x o => by
    unfold okStp at o ⊢
    unfold stpC
    cases hw : x.win with
    | true => rw [hw] at o; exact ⟨o, rfl⟩
    | false =>
      rw [hw] at o
      simp only [Bool.false_eq_true, if_false, Bool.and_eq_true, decide_eq_true_eq] at o ⊢
      refine ⟨⟨o.1, by rw [hl]; omega⟩, ?_⟩
      have : x.idx.toNat < h.cs.length := by omega
      simp [withH, List.getD, List.getElem?_append_left this]
  have new : ∀ b, okStp (withH h c) ⟨false, h.cs.length, b⟩ = true ∧ stpC (withH h c) ⟨false, h.cs.length, b⟩ = c := fun b => by
    refine ⟨by simp [okStp, hl]; omega, ?_⟩
    simp [stpC, withH, List.getD]
  constructor
  · intro p
    refine ⟨fun x o => ?_, ?_⟩
    · obtain ⟨o', e⟩ := same x o
      have := p x o'
      unfold src dst cost at this ⊢
      rw [e] at this
      exact this
    · have p1 := p _ (new false).1
      have p2 := p _ (new true).1
      unfold src dst cost at p1 p2
      rw [(new false).2] at p1
      rw [(new true).2] at p2
      simp at p1 p2
      omega
  · intro ⟨p, h1, h2⟩ x o
    by_cases hx : okStp h x = true
    · obtain ⟨o', e⟩ := same x hx
      have := p x hx
      unfold src dst cost at this ⊢
      rw [e]
      exact this
    · have hw : x.win = false ∧ x.idx = h.cs.length := by
        unfold okStp at o hx
        cases hw : x.win with
        | true => rw [hw] at o hx; exact absurd o hx
        | false =>
          rw [hw] at o hx
          simp only [Bool.false_eq_true, if_false, Bool.and_eq_true, decide_eq_true_eq] at o hx
          rw [hl] at o
          exact ⟨rfl, by omega⟩
      obtain ⟨xw, xi, xb⟩ := x
      obtain ⟨rfl, rfl⟩ : xw = false ∧ xi = h.cs.length := hw
      unfold src dst cost
      rw [(new xb).2]
      cases xb <;> simp <;> omega
theorem with_valid {h : Hall} (v : Valid h) {c : Cnt} (hl : h.cs.length < 10) (hc : 0 ≤ c.f ∧ c.f ≤ c.t ∧ c.t < h.n ∧ 0 ≤ c.lo ∧ c.lo ≤ c.hi ∧ c.hi ≤ 10000000) : Valid (withH h c) :=
  ⟨v.n1, v.n10, by simp [withH]; omega, v.m0, v.m1, fun x hx => by
    simp only [withH, List.mem_append, List.mem_singleton] at hx
    rcases hx with hx | rfl
    · exact v.cs x hx
    · exact hc⟩
/-- do the counters agree with one more? -/
theorem agr_with {h : Hall} (v : Valid h) (g : Agr h) {a b : Nat} {lo hi : Int} (ha : (a : Int) ≤ b) (hb : (b : Int) < h.n) : Agr (withH h ⟨a, b, lo, hi⟩) ↔ lo ≤ ds h a (b + 1) ∧ -(ds h (b + 1) a) ≤ hi ∧ lo ≤ hi := by
  have hA : (a : Int) ≤ h.n := by omega
  have hB : ((b + 1 : Nat) : Int) ≤ h.n := by omega
  have e1 : ((b : Int) + 1).toNat = b + 1 := by omega
  constructor
  · rintro ⟨d, p⟩
    obtain ⟨p, h1, h2⟩ := pot_with.1 p
    simp only [e1, Int.toNat_natCast] at h1 h2
    have q1 := ds_le v g p hA hB
    have q2 := ds_le v g p hB hA
    omega
  · rintro ⟨h1, h2, h3⟩
    have hbk := ds_back v g hA hB
    obtain ⟨d, p, e⟩ := ds_mid v g hA hB (n := max lo (-(ds h (b + 1) a))) (by omega) (by omega)
    refine ⟨d, pot_with.2 ⟨p, ?_, ?_⟩⟩
    · simp only [e1, Int.toNat_natCast]; omega
    · simp only [e1, Int.toNat_natCast]; omega
theorem ds_sum_le {h : Hall} (v : Valid h) (g : Agr h) {a b : Nat} (ha : a ≤ b) (hb : (b : Int) ≤ h.n) : ds h a b ≤ h.most * (b - a : Nat) ∧ 0 ≤ -(ds h b a) := by
  have m0 := v.m0
  have key : ∀ k, a + k ≤ b → ds h a (a + k) ≤ h.most * k ∧ ds h (a + k) a ≤ 0 := by
    intro k
    induction k with
    | zero =>
      intro _
      have := ds_self v g (a := a) (by omega)
      rw [Nat.add_zero]
      omega
    | succ k ih =>
      intro hk
      obtain ⟨i1, i2⟩ := ih (by omega)
      have w1 := pot_win (ds_pot v g (a := a) (by omega)) (i := a + k) (by omega)
      have w2 := pot_win (ds_pot v g (a := a + (k + 1)) (by omega)) (i := a + k) (by omega)
      have q := ds_tri v g (a := a + (k + 1)) (b := a + k) (c := a) (by omega) (by omega) (by omega)
      have s := ds_self v g (a := a + (k + 1)) (by omega)
      have e : h.most * ((k + 1 : Nat) : Int) = h.most * k + h.most := by rw [Int.natCast_add, Int.mul_add]; simp
      have e2 : a + k + 1 = a + (k + 1) := by omega
      rw [e2] at w1 w2
      omega
  have := key (b - a) (by omega)
  rw [show a + (b - a) = b by omega] at this
  omega
end Go.Proofs.Ytgcldgchhdjnhaa
namespace Go.Proofs.Ytgcldgchhdjnhaa

theorem pot_iff {h : Hall} {d : Nat → Int} : Pot h d ↔ (∀ i : Nat, (i : Int) < h.n → 0 ≤ d (i + 1) - d i ∧ d (i + 1) - d i ≤ h.most) ∧ ∀ c ∈ h.cs, c.lo ≤ d (c.t + 1).toNat - d c.f.toNat ∧ d (c.t + 1).toNat - d c.f.toNat ≤ c.hi := by
  constructor
  · exact fun p => ⟨fun i hi => pot_win p hi, fun c hc => pot_cnt p hc⟩
  · intro ⟨h1, h2⟩ x o
    have key : (stpC h x).lo ≤ d ((stpC h x).t + 1).toNat - d (stpC h x).f.toNat ∧ d ((stpC h x).t + 1).toNat - d (stpC h x).f.toNat ≤ (stpC h x).hi := by
      unfold okStp at o
      unfold stpC
      by_cases hw : x.win = true
      · rw [if_pos hw] at o ⊢
        simp only [Bool.and_eq_true, decide_eq_true_eq] at o
        obtain ⟨k, hk⟩ : ∃ k : Nat, x.idx = k := ⟨x.idx.toNat, by omega⟩
        have := h1 k (by omega)
        simp only [hk, Int.toNat_natCast, show ((k : Int) + 1).toNat = k + 1 by omega]
        omega
      · rw [if_neg hw] at o ⊢
        simp only [Bool.and_eq_true, decide_eq_true_eq] at o
        have hl : x.idx.toNat < h.cs.length := by omega
        have e : h.cs.getD x.idx.toNat ⟨0, 0, 0, 0⟩ = h.cs[x.idx.toNat] := by simp [List.getD, hl]
        rw [e]
        exact h2 _ (List.getElem_mem hl)
    unfold src dst cost
    split <;> omega
/-- a counter, its windows in the opposite order -/
def revC (n : Int) (c : Cnt) : Cnt := ⟨n - 1 - c.t, n - 1 - c.f, c.lo, c.hi⟩
def revH (h : Hall) : Hall := { h with cs := h.cs.map (revC h.n) }
def revD (n : Int) (d : Nat → Int) (i : Nat) : Int := -d (n - i).toNat
theorem rev_valid {h : Hall} (v : Valid h) : Valid (revH h) :=
  ⟨v.n1, v.n10, by simpa [revH] using v.len, v.m0, v.m1, fun c hc => by
    simp only [revH, List.mem_map] at hc
    obtain ⟨x, hx, rfl⟩ := hc
    have := v.cs x hx
    simp only [revC, revH]
    omega⟩
theorem pot_rev {h : Hall} (v : Valid h) {d : Nat → Int} (p : Pot h d) : Pot (revH h) (revD h.n d) := by
  obtain ⟨h1, h2⟩ := pot_iff.1 p
  refine pot_iff.2 ⟨fun i hi => ?_, fun c hc => ?_⟩
  · have hi' : (i : Int) < h.n := hi
    have := h1 (h.n - (i + 1)).toNat (by omega)
    have e : (h.n - (i + 1 : Int)).toNat + 1 = (h.n - i).toNat := by omega
    rw [e] at this
    have e2 : (h.n - ((i + 1 : Nat) : Int)).toNat = (h.n - (i + 1 : Int)).toNat := by omega
    simp only [revD]
    show 0 ≤ _ ∧ _ ≤ h.most
    rw [e2]
    omega
  · simp only [revH, List.mem_map] at hc
    obtain ⟨x, hx, rfl⟩ := hc
    have hv := v.cs x hx
    have := h2 x hx
    simp only [revD, revC]
    have e1 : (h.n - (((h.n - 1 - x.f + 1).toNat : Nat) : Int)).toNat = x.f.toNat := by omega
    have e2 : (h.n - (((h.n - 1 - x.t).toNat : Nat) : Int)).toNat = (x.t + 1).toNat := by omega
    rw [e1, e2]
    omega
theorem revH_revH {h : Hall} : revH (revH h) = h := by
  unfold revH
  simp only [List.map_map]
  have : (revC h.n ∘ revC h.n) = id := by
    funext c
    simp only [Function.comp, revC, id]
    obtain ⟨f, t, lo, hi⟩ := c
    congr 1
    · show h.n - 1 - (h.n - 1 - f) = f; omega
    · show h.n - 1 - (h.n - 1 - t) = t; omega
  rw [this, List.map_id]
theorem agr_rev {h : Hall} (v : Valid h) : Agr (revH h) ↔ Agr h :=
  ⟨fun ⟨_, p⟩ => by have := pot_rev (rev_valid v) p; rw [revH_revH] at this; exact ⟨_, this⟩, fun ⟨_, p⟩ => ⟨_, pot_rev v p⟩⟩
theorem ds_rev_le {h : Hall} (v : Valid h) (g : Agr h) {a b : Nat} (ha : (a : Int) ≤ h.n) (hb : (b : Int) ≤ h.n) : ds h (h.n - b).toNat (h.n - a).toNat ≤ ds (revH h) a b := by
  refine (ds_sub (h := revH h) (x := h) (rev_valid v) v g (a := a) (b := b) ha hb (by omega) (by omega) fun d p => ⟨_, pot_rev v p, ?_⟩).2
  simp only [revD]
  omega
theorem ds_rev {h : Hall} (v : Valid h) (g : Agr h) {a b : Nat} (ha : (a : Int) ≤ h.n) (hb : (b : Int) ≤ h.n) : ds (revH h) a b = ds h (h.n - b).toNat (h.n - a).toNat := by
  have h1 := ds_rev_le v g ha hb
  have h2 := ds_rev_le (h := revH h) (rev_valid v) ((agr_rev v).2 g) (a := (h.n - b).toNat) (b := (h.n - a).toNat) (by show _ ≤ h.n; omega) (by show _ ≤ h.n; omega)
  rw [revH_revH] at h2
  have e1 : (h.n - (((h.n - a).toNat : Nat) : Int)).toNat = a := by omega
  have e2 : (h.n - (((h.n - b).toNat : Nat) : Int)).toNat = b := by omega
  have h2' : ds (revH h) (h.n - (((h.n - a).toNat : Nat) : Int)).toNat (h.n - (((h.n - b).toNat : Nat) : Int)).toNat ≤ ds h (h.n - b).toNat (h.n - a).toNat := h2
  rw [e1, e2] at h2'
  omega
/-- a hall with a window more -/
def moreH (h : Hall) : Hall := { h with n := h.n + 1 }
theorem more_valid {h : Hall} (v : Valid h) (h10 : h.n < 10) : Valid (moreH h) :=
  ⟨by have := v.n1; simp only [moreH]; omega, by simp only [moreH]; omega, v.len, v.m0, v.m1, fun c hc => by have := v.cs c hc; simp only [moreH]; omega⟩
theorem pot_more {h : Hall} {d : Nat → Int} (p : Pot (moreH h) d) : Pot h d := by
  obtain ⟨h1, h2⟩ := pot_iff.1 p
  exact pot_iff.2 ⟨fun i hi => h1 i (by simp only [moreH]; omega), h2⟩
theorem pot_less {h : Hall} (v : Valid h) {d : Nat → Int} (p : Pot h d) : Pot (moreH h) (fun i => if (i : Int) ≤ h.n then d i else d h.n.toNat) := by
  obtain ⟨h1, h2⟩ := pot_iff.1 p
  have m0 := v.m0
  refine pot_iff.2 ⟨fun i hi => ?_, fun c hc => ?_⟩
  · have hi' : (i : Int) < h.n + 1 := hi
    show 0 ≤ _ ∧ _ ≤ h.most
    by_cases hlt : (i : Int) < h.n
    · have := h1 i hlt
      rw [if_pos (by omega), if_pos (by omega)]
      exact this
    · have e : h.n.toNat = i := by omega
      rw [if_neg (by omega), if_pos (by omega), e]
      omega
  · have hv := v.cs c hc
    have := h2 c hc
    rw [if_pos (by omega), if_pos (by omega)]
    exact this
theorem more_eq {h : Hall} (v : Valid h) (h10 : h.n < 10) : (Agr (moreH h) ↔ Agr h) ∧ ∀ (_ : Agr h) (a b : Nat), (a : Int) ≤ h.n → (b : Int) ≤ h.n → ds (moreH h) a b = ds h a b := by
  have vm := more_valid v h10
  have ag : Agr (moreH h) ↔ Agr h := ⟨fun ⟨_, p⟩ => ⟨_, pot_more p⟩, fun ⟨_, p⟩ => ⟨_, pot_less v p⟩⟩
  refine ⟨ag, fun g a b ha hb => ?_⟩
  have ha' : (a : Int) ≤ (moreH h).n := by simp only [moreH]; omega
  have hb' : (b : Int) ≤ (moreH h).n := by simp only [moreH]; omega
  have h1 := (ds_sub v vm (ag.2 g) ha hb ha' hb' fun d p => ⟨d, pot_more p, rfl⟩).2
  have h2 := (ds_sub vm v g ha' hb' ha hb fun d p => ⟨_, pot_less v p, by rw [if_pos hb, if_pos ha]⟩).2
  omega
/-- a hall whose potentials are among another one's -/
theorem ds_mono {h x : Hall} (v : Valid h) (vx : Valid x) (gx : Agr x) (hn : x.n = h.n) (hs : ∀ d, Pot x d → Pot h d) : Agr h ∧ ∀ a b : Nat, (a : Int) ≤ h.n → (b : Int) ≤ h.n → ds x a b ≤ ds h a b := by
  obtain ⟨d, p⟩ := gx
  exact ⟨⟨d, hs d p⟩, fun a b ha hb => (ds_sub v vx ⟨d, p⟩ ha hb (by omega) (by omega) fun d p => ⟨d, hs d p, rfl⟩).2⟩
end Go.Proofs.Ytgcldgchhdjnhaa
namespace Go.Proofs.Ytgcldgchhdjnhaa

theorem usesM_cons (x : Stp) (l : List Stp) (c : Int) : usesM (x :: l) c = ((!x.win && (x.idx == c)) || usesM l c) := by simp [usesM]
theorem mark_spec (i : Int) (hi : 0 ≤ i) : ∀ (l : List Stp) (a : Nat → Int), (∀ x ∈ l, 0 ≤ x.idx) →
    (mark a i l = none ∧ ∃ c : Nat, usesM l c = true ∧ 0 < a c ∧ a c ≠ i + 1) ∨ ∃ a', mark a i l = some a' ∧ (∀ c : Nat, usesM l c = true → a c ≤ 0 ∨ a c = i + 1) ∧ ∀ c : Nat, a' c = if usesM l c = true then i + 1 else a c
  | [], a, _ => .inr ⟨a, rfl, fun c h => by simp [usesM] at h, fun c => by simp [usesM]⟩
  | x :: l, a, hx => by
    have hx0 := hx x (by simp)
    rw [mark]
    cases hw : x.win with
    | true =>
      rw [if_pos rfl]
      have e : ∀ c : Int, usesM (x :: l) c = usesM l c := fun c => by rw [usesM_cons, hw]; rfl
      rcases mark_spec i hi l a (fun y hy => hx y (by simp [hy])) with ⟨h1, c, h2, h3, h4⟩ | ⟨a', h1, h2, h3⟩
      · exact .inl ⟨h1, c, by rw [e]; exact h2, h3, h4⟩
      · exact .inr ⟨a', h1, fun c hc => h2 c (by rw [← e]; exact hc), fun c => by rw [e]; exact h3 c⟩
    | false =>
      rw [if_neg (by simp)]
      have e : ∀ c : Nat, usesM (x :: l) c = (decide (x.idx.toNat = c) || usesM l c) := fun c => by
        rw [usesM_cons, hw]
        have : (x.idx == (c : Int)) = decide (x.idx.toNat = c) := by
          rw [Bool.eq_iff_iff]
          simp
          omega
        rw [this]; rfl
      by_cases hb : 0 < a x.idx.toNat ∧ a x.idx.toNat ≠ i + 1
      · rw [if_pos hb]
        exact .inl ⟨rfl, x.idx.toNat, by rw [e]; simp, hb.1, hb.2⟩
      · rw [if_neg hb]
        rcases mark_spec i hi l (upd a x.idx.toNat (i + 1)) (fun y hy => hx y (by simp [hy])) with ⟨h1, c, h2, h3, h4⟩ | ⟨a', h1, h2, h3⟩
        · left
          refine ⟨h1, c, by rw [e, h2]; simp, ?_, ?_⟩
          · unfold upd at h3 h4
            by_cases hc : c = x.idx.toNat
            · rw [if_pos hc] at h4; exact absurd rfl h4
            · rw [if_neg hc] at h3; exact h3
          · unfold upd at h4
            by_cases hc : c = x.idx.toNat
            · rw [if_pos hc] at h4; exact absurd rfl h4
            · rw [if_neg hc] at h4; exact h4
        · right
          refine ⟨a', h1, fun c hc => ?_, fun c => ?_⟩
          · by_cases hcx : c = x.idx.toNat
            · subst hcx; omega
            · rw [e] at hc
              have : usesM l c = true := by
                rw [Bool.or_eq_true] at hc
                rcases hc with hc | hc
                · have : x.idx.toNat = c := by simpa using hc
                  omega
                · exact hc
              have := h2 c this
              unfold upd at this
              rw [if_neg hcx] at this
              exact this
          · rw [h3 c, e]
            unfold upd
            by_cases hcx : c = x.idx.toNat
            · subst hcx; simp
            · have : decide (x.idx.toNat = c) = false := decide_eq_false (by omega)
              rw [this, Bool.false_or, if_neg hcx]
theorem usedBy_cons (r : List Stp) (rs : List (List Stp)) (c : Nat) : usedBy (r :: rs) c = usedBy rs c + if usesM r c = true then 1 else 0 := by
  unfold usedBy
  rw [List.countP_cons]
theorem marks_spec : ∀ (ll : List (List Stp)) (i : Int) (a : Nat → Int), 0 ≤ i → (∀ r ∈ ll, ∀ x ∈ r, 0 ≤ x.idx) → (∀ c, 0 ≤ a c ∧ a c ≤ i) →
    (marks a i ll = true ↔ ∀ c : Nat, (0 < a c → usedBy ll c = 0) ∧ usedBy ll c ≤ 1)
  | [], i, a, _, _, _ => by simp [marks, usedBy]
  | r :: rs, i, a, hi, hx, ha => by
    rw [marks]
    rcases mark_spec i hi r a (hx r (by simp)) with ⟨h1, c, h2, h3, h4⟩ | ⟨a', h1, h2, h3⟩
    · rw [h1]
      refine ⟨fun h => (by cases h), fun h => ?_⟩
      have := (h c).1 h3
      rw [usedBy_cons, h2] at this
      simp at this
    · rw [h1]
      simp only
      have ha' : ∀ c, 0 ≤ a' c ∧ a' c ≤ i + 1 := fun c => by
        rw [h3 c]
        have := ha c
        split <;> omega
      rw [marks_spec rs (i + 1) a' (by omega) (fun r' hr' => hx r' (by simp [hr'])) ha']
      have hc : ∀ c : Nat, ((0 < a' c → usedBy rs c = 0) ∧ usedBy rs c ≤ 1) ↔ ((0 < a c → usedBy (r :: rs) c = 0) ∧ usedBy (r :: rs) c ≤ 1) := fun c => by
        rw [h3 c, usedBy_cons]
        have := ha c
        by_cases hu : usesM r c = true
        · have := h2 c hu
          rw [if_pos hu, if_pos hu]
          omega
        · rw [if_neg hu, if_neg hu]
          omega
      exact ⟨fun h c => (hc c).1 (h c), fun h c => (hc c).2 (h c)⟩
theorem rings_eq (h : Hall) (ll : List (List Stp)) : ringsErr h ll = ringsErrR h ll := by
  unfold ringsErr ringsErrR
  by_cases hc : chk h = 0
  · rw [if_neg (show ¬ (chk h ≠ 0) from fun hh => hh hc), if_neg (show ¬ (chk h ≠ 0) from fun hh => hh hc)]
    by_cases h6 : 20 < ll.length ∨ ll.any (fun r => decide (200 < r.length)) = true
    · rw [if_pos h6, if_pos h6]
    · rw [if_neg h6, if_neg h6]
      cases h3 : ll.any (fun r => r.any (oddS h)) with
      | true => simp only [if_true]
      | false =>
        simp only [Bool.false_eq_true, if_false]
        cases h16 : ll.any (fun r => !isRingM h r) with
        | true => simp only [if_true]
        | false =>
          simp only [Bool.false_eq_true, if_false]
          have hok : ∀ r ∈ ll, ∀ x ∈ r, okStp h x = true := fun r hr x hx => by
            have := List.any_eq_false.1 h3 r hr
            have := List.any_eq_false.1 (by simpa using this) x hx
            unfold oddS at this
            simpa using this
          have hidx : ∀ r ∈ ll, ∀ x ∈ r, 0 ≤ x.idx := fun r hr x hx => by
            have := hok r hr x hx
            unfold okStp at this
            split at this <;> simp at this <;> omega
          have key := marks_spec ll 0 (fun _ => 0) (by omega) hidx (fun c => by omega)
          have hbig : ∀ c : Nat, h.cs.length ≤ c → usedBy ll c = 0 := fun c hcl => by
            unfold usedBy
            rw [List.countP_eq_zero]
            intro r hr hu
            unfold usesM at hu
            obtain ⟨x, hx1, hx2⟩ := List.any_eq_true.1 hu
            have := hok r hr x hx1
            unfold okStp at this
            simp only [Bool.and_eq_true, Bool.not_eq_true', beq_iff_eq] at hx2
            rw [hx2.1] at this
            simp at this
            omega
          cases hm : marks (fun _ => 0) 0 ll with
          | true =>
            simp only [if_true]
            rw [if_neg]
            rw [List.any_eq_true]
            rintro ⟨c, _, hcc⟩
            have := (key.1 hm c).2
            simp at hcc
            omega
          | false =>
            simp only [Bool.false_eq_true, if_false]
            rw [if_pos]
            rw [List.any_eq_true]
            cases hx : (List.range h.cs.length).any (fun c => decide (1 < usedBy ll c)) with
            | true => exact List.any_eq_true.1 hx
            | false =>
              exfalso
              have : marks (fun _ => 0) 0 ll = true := key.2 fun c => by
                refine ⟨fun h0 => by omega, ?_⟩
                by_cases hcl : c < h.cs.length
                · have := List.any_eq_false.1 hx c (List.mem_range.2 hcl)
                  simp at this
                  omega
                · have := hbig c (by omega)
                  omega
              rw [hm] at this; cases this
  · rw [if_pos hc, if_pos hc]
end Go.Proofs.Ytgcldgchhdjnhaa
namespace Go.Proofs.Ytgcldgchhdjnhaa

def okW (h : Hall) (l : List Int) : Bool := (leastM (wo h l) 0).2
theorem okW_iff {h : Hall} (v : Valid h) (l : List Int) : okW h l = true ↔ Agr (wo h l) := agr_iff (wo_valid v l)
theorem pickM_congr {h x : Hall} (hl : h.cs.length = x.cs.length) (he : ∀ l, okW h l = okW x l) (k : Nat) : pickM h k = pickM x k := by
  unfold pickM
  rw [hl]
  exact List.filter_congr fun l _ => he l
theorem fewM_congr {h x : Hall} (hl : h.cs.length = x.cs.length) (he : ∀ l, okW h l = okW x l) : ∀ j k, fewM h j k = fewM x j k
  | 0, _ => rfl
  | j + 1, k => by rw [fewM, fewM, pickM_congr hl he, fewM_congr hl he j]
theorem fewest_congr {h x : Hall} (hl : h.cs.length = x.cs.length) (he : ∀ l, okW h l = okW x l) : fewestM h = fewestM x := by
  unfold fewestM
  rw [hl]
  exact fewM_congr hl he _ _
theorem kept_map (f : Cnt → Cnt) (l : List Int) : ∀ (cs : List Cnt) (i : Nat), kept l i (cs.map f) = (kept l i cs).map f
  | [], _ => rfl
  | c :: cs, i => by
    rw [List.map_cons, kept, kept, kept_map f l cs]
    split <;> simp
theorem wo_rev (h : Hall) (l : List Int) : wo (revH h) l = revH (wo h l) := by
  unfold wo revH
  simp only [kept_map]
theorem fewest_rev {h : Hall} (v : Valid h) : fewestM (revH h) = fewestM h := by
  refine fewest_congr (by simp [revH]) fun l => ?_
  rw [Bool.eq_iff_iff, okW_iff (rev_valid v), okW_iff v, wo_rev]
  exact agr_rev (wo_valid v l)
/-- what is in the list of the fewest -/
theorem fewM_mem {h : Hall} {l : List Int} : ∀ {j k : Nat}, l ∈ fewM h j k → ∃ i, k ≤ i ∧ i < k + j ∧ l ∈ pickM h i ∧ fewM h j k = pickM h i ∧ ∀ m, k ≤ m → m < i → pickM h m = []
  | 0, k, hl => by simp [fewM] at hl
  | j + 1, k, hl => by
    rw [fewM] at hl ⊢
    by_cases he : (pickM h k).isEmpty = true
    · rw [if_pos he] at hl ⊢
      obtain ⟨i, h1, h2, h3, h4, h5⟩ := fewM_mem hl
      refine ⟨i, by omega, by omega, h3, h4, fun m hm1 hm2 => ?_⟩
      by_cases hmk : m = k
      · subst hmk; exact List.isEmpty_iff.1 he
      · exact h5 m (by omega) hm2
    · rw [if_neg he] at hl ⊢
      exact ⟨k, Nat.le_refl _, by omega, hl, rfl, fun m h1 h2 => by omega⟩
theorem incs_len_eq (n : Int) : ∀ (k : Nat) (l : List Int), l ∈ incs n k → l.length = k
  | 0, l, h => by simp [incs] at h; rw [h]; rfl
  | k + 1, l, h => by
    rw [incs, List.mem_flatMap] at h
    obtain ⟨m, hm, hl⟩ := h
    obtain ⟨i, _, rfl⟩ := nxt_mem hl
    have := incs_len_eq n k m hm
    simp [this]
theorem kept_nil : ∀ (cs : List Cnt) (i : Nat), kept [] i cs = cs
  | [], _ => rfl
  | c :: cs, i => by rw [kept, if_neg (by simp), kept_nil cs]
theorem wo_nil (h : Hall) : wo h [] = h := by
  unfold wo
  rw [kept_nil]
/-- none can be wrong just if all agree -/
theorem wrong_nil {h : Hall} (v : Valid h) : (wrongL h = [] ↔ Agr h) ∧ (wrongL h = [] ↔ [] ∈ fewestM h) := by
  have hne := fewestM_ne v
  have hc := chk_of_valid v
  obtain ⟨x, xs, hx⟩ : ∃ x xs, fewestM h = x :: xs := by
    rcases hf : fewestM h with _ | ⟨x, xs⟩
    · exact absurd hf hne
    · exact ⟨x, xs, rfl⟩
  have hw : wrongL h = x := by unfold wrongL; rw [if_pos hc, hx]; rfl
  obtain ⟨i, _, h2, h3, h4, h5⟩ := fewM_mem (h := h) (l := x) (j := h.cs.length + 1) (k := 0) (by show x ∈ fewestM h; rw [hx]; simp)
  have hx0 : x ∈ incs h.cs.length i := by unfold pickM at h3; exact (List.mem_filter.1 h3).1
  have hxl := incs_len_eq _ _ _ hx0
  have h0 : [] ∈ pickM h 0 ↔ Agr h := by
    unfold pickM
    rw [List.mem_filter]
    have := okW_iff v []
    rw [wo_nil] at this
    unfold okW at this
    rw [wo_nil] at this ⊢
    simp only [incs, List.mem_singleton, true_and]
    exact this
  have key : x = [] ↔ Agr h := by
    constructor
    · intro e
      subst e
      have : i = 0 := by simpa using hxl.symm
      subst this
      exact h0.1 h3
    · intro g
      by_cases hi : i = 0
      · subst hi; exact List.eq_nil_of_length_eq_zero hxl
      · have := h5 0 (Nat.le_refl _) (by omega)
        rw [this] at h0
        have := h0.2 g
        cases this
  refine ⟨by rw [hw]; exact key, ?_⟩
  rw [hw]
  constructor
  · intro e
    rw [hx, e]; simp
  · intro hm
    have : fewestM h = pickM h i := h4
    rw [this] at hm
    unfold pickM at hm
    have := incs_len_eq _ _ _ (List.mem_filter.1 hm).1
    simp at this
    subst this
    exact List.eq_nil_of_length_eq_zero hxl
end Go.Proofs.Ytgcldgchhdjnhaa
namespace Go.Proofs.Ytgcldgchhdjnhaa

/-- the numbers of the bits of a number, below another one -/
def bitsL (n b : Nat) : List Int := ((List.range n).filter fun i => b.testBit i).map fun (i : Nat) => (i : Int)
/-- the number whose bits they are -/
def maskL (l : List Int) : Nat := (l.map fun x => 2 ^ x.toNat).sum
theorem mask_snoc (l : List Int) (x : Int) : maskL (l ++ [x]) = maskL l + 2 ^ x.toNat := by simp [maskL]
theorem mask_lt {n : Int} (hn : 0 ≤ n) : ∀ k, ∀ l ∈ incs n k, maskL l < 2 ^ (start l).toNat ∧ ∀ i : Nat, (maskL l).testBit i = true ↔ (i : Int) ∈ l
  | 0, l, h => by
    simp [incs] at h
    subst h
    simp [maskL, start]
  | k + 1, l, h => by
    rw [incs, List.mem_flatMap] at h
    obtain ⟨m, hm, hl⟩ := h
    obtain ⟨j, hj, rfl⟩ := nxt_mem hl
    obtain ⟨h1, h2⟩ := mask_lt hn k m hm
    have hinc := incs_inc hn k m hm
    have h0 := start_nn fun x hx => (hinc.1 x hx).1
    have hle : maskL m < 2 ^ (start m + j).toNat := Nat.lt_of_lt_of_le h1 (Nat.pow_le_pow_right (by omega) (by omega))
    rw [mask_snoc, start_snoc]
    have e1 : (start m + j + 1).toNat = (start m + j).toNat + 1 := by omega
    refine ⟨by rw [e1, Nat.pow_succ]; omega, fun i => ?_⟩
    have e2 : maskL m + 2 ^ (start m + j).toNat = 2 ^ (start m + j).toNat ||| maskL m := by
      have := Nat.two_pow_add_eq_or_of_lt hle 1
      rw [Nat.mul_one] at this
      omega
    rw [e2, Nat.testBit_or, Nat.testBit_two_pow, Bool.or_eq_true, h2 i]
    simp only [decide_eq_true_eq, List.mem_append, List.mem_singleton]
    constructor
    · rintro (hh | hh)
      · right; omega
      · exact .inl hh
    · rintro (hh | hh)
      · exact .inr hh
      · left; omega
theorem sorted_ext : ∀ {a b : List Int}, a.Pairwise (· < ·) → b.Pairwise (· < ·) → (∀ x, x ∈ a ↔ x ∈ b) → a = b
  | [], [], _, _, _ => rfl
  | [], y :: b, _, _, h => absurd ((h y).2 (by simp)) (by simp)
  | x :: a, [], _, _, h => absurd ((h x).1 (by simp)) (by simp)
  | x :: a, y :: b, ha, hb, h => by
    rw [List.pairwise_cons] at ha hb
    have e : x = y := by
      rcases List.mem_cons.1 ((h x).1 (by simp)) with h1 | h1
      · exact h1
      · rcases List.mem_cons.1 ((h y).2 (by simp)) with h2 | h2
        · exact h2.symm
        · have := hb.1 x h1
          have := ha.1 y h2
          omega
    subst e
    have e2 : a = b := sorted_ext ha.2 hb.2 fun z => by
      constructor
      · intro hz
        rcases List.mem_cons.1 ((h z).1 (by simp [hz])) with h1 | h1
        · have := ha.1 z hz
          omega
        · exact h1
      · intro hz
        rcases List.mem_cons.1 ((h z).2 (by simp [hz])) with h1 | h1
        · have := hb.1 z hz
          omega
        · exact h1
    rw [e2]
theorem incs_sorted {n : Int} (hn : 0 ≤ n) : ∀ k, ∀ l ∈ incs n k, l.Pairwise (· < ·)
  | 0, l, h => by
    simp [incs] at h
    subst h
    exact List.Pairwise.nil
  | k + 1, l, h => by
    rw [incs, List.mem_flatMap] at h
    obtain ⟨m, hm, hl⟩ := h
    obtain ⟨j, hj, rfl⟩ := nxt_mem hl
    have hinc := incs_inc hn k m hm
    rw [List.pairwise_append]
    refine ⟨incs_sorted hn k m hm, by simp, fun x hx y hy => ?_⟩
    rw [List.mem_singleton] at hy
    subst hy
    have := (hinc.1 x hx).2
    omega
theorem incs_all {n : Int} (hn : 0 ≤ n) : ∀ (k : Nat) (l : List Int), l.length = k → l.Pairwise (· < ·) → (∀ x ∈ l, 0 ≤ x ∧ x < n) → l ∈ incs n k
  | 0, l, hk, _, _ => by
    rw [List.length_eq_zero_iff] at hk
    subst hk
    simp [incs]
  | k + 1, l, hk, hs, hb => by
    obtain ⟨m, x, rfl⟩ : ∃ m x, l = m ++ [x] := by
      rcases List.eq_nil_or_concat l with rfl | ⟨m, x, h⟩
      · simp at hk
      · exact ⟨m, x, by simpa using h⟩
    rw [List.pairwise_append] at hs
    have hm := incs_all hn k m (by simpa using hk) hs.1 fun y hy => hb y (by simp [hy])
    rw [incs, List.mem_flatMap]
    refine ⟨m, hm, ?_⟩
    have hx := hb x (by simp)
    have hst : start m ≤ x := by
      unfold start
      cases e : m.getLast? with
      | none => simpa using hx.1
      | some a =>
        have := hs.2.2 a (List.mem_of_getLast? e) x (by simp)
        simp only; omega
    unfold nxt
    rw [List.mem_map]
    exact ⟨(x - start m).toNat, List.mem_range.2 (by omega), by congr 2; omega⟩
theorem bits_sorted (n b : Nat) : (bitsL n b).Pairwise (· < ·) := by
  unfold bitsL
  rw [List.pairwise_map]
  exact List.Pairwise.imp (fun h => by omega) (List.pairwise_lt_range.filter _)
theorem bits_mem {n b : Nat} {x : Int} : x ∈ bitsL n b ↔ 0 ≤ x ∧ x < n ∧ b.testBit x.toNat = true := by
  unfold bitsL
  simp only [List.mem_map, List.mem_filter, List.mem_range]
  constructor
  · rintro ⟨i, ⟨h1, h2⟩, rfl⟩
    exact ⟨by omega, by omega, by simpa using h2⟩
  · rintro ⟨h1, h2, h3⟩
    exact ⟨x.toNat, ⟨by omega, h3⟩, by omega⟩
theorem bits_incs {n : Nat} {k : Nat} {l : List Int} (h : l ∈ incs n k) : bitsL n (maskL l) = l ∧ maskL l < 2 ^ n := by
  obtain ⟨h1, h2⟩ := mask_lt (by omega) k l h
  have hi := incs_inc (by omega) k l h
  refine ⟨sorted_ext (bits_sorted _ _) (incs_sorted (by omega) k l h) fun x => ?_, Nat.lt_of_lt_of_le h1 (Nat.pow_le_pow_right (by omega) (by have := hi.2.1; omega))⟩
  rw [bits_mem, h2]
  constructor
  · rintro ⟨a, _, c⟩
    rwa [Int.toNat_of_nonneg a] at c
  · intro hx
    have := hi.1 x hx
    have := hi.2.1
    refine ⟨by omega, by omega, ?_⟩
    rwa [Int.toNat_of_nonneg (by omega)]
theorem bits_in (n b : Nat) : bitsL n b ∈ incs n (bitsL n b).length :=
  incs_all (by omega) _ _ rfl (bits_sorted n b) fun _ hx => ⟨(bits_mem.1 hx).1, (bits_mem.1 hx).2.1⟩
theorem bits_inj {n a b : Nat} (ha : a < 2 ^ n) (hb : b < 2 ^ n) (h : bitsL n a = bitsL n b) : a = b := by
  refine Nat.eq_of_testBit_eq fun i => ?_
  by_cases hi : i < n
  · have : (i : Int) ∈ bitsL n a ↔ (i : Int) ∈ bitsL n b := by rw [h]
    rw [bits_mem, bits_mem] at this
    simp only [Int.toNat_natCast] at this
    have h0 : (0 : Int) ≤ i ∧ (i : Int) < n := by omega
    simp only [h0.1, h0.2, true_and] at this
    cases e1 : a.testBit i <;> cases e2 : b.testBit i <;> simp_all
  · rw [Nat.testBit_lt_two_pow (Nat.lt_of_lt_of_le ha (Nat.pow_le_pow_right (by omega) (by omega))), Nat.testBit_lt_two_pow (Nat.lt_of_lt_of_le hb (Nat.pow_le_pow_right (by omega) (by omega)))]
end Go.Proofs.Ytgcldgchhdjnhaa
namespace Go.Proofs.Ytgcldgchhdjnhaa

/-- a list comes before another one -/
def lex : List Int → List Int → Prop
  | x :: a, y :: b => x < y ∨ (x = y ∧ lex a b)
  | _, _ => False
theorem lex_irr : ∀ a, ¬ lex a a
  | [], h => h
  | x :: a, h => by
    rcases h with h | ⟨_, h⟩
    · omega
    · exact lex_irr a h
theorem lex_trans : ∀ {a b c}, lex a b → lex b c → lex a c
  | [], _, _, h, _ => h.elim
  | _ :: _, [], _, h, _ => h.elim
  | _ :: _, _ :: _, [], _, h => h.elim
  | x :: a, y :: b, z :: c, h1, h2 => by
    rcases h1 with h1 | ⟨rfl, h1⟩ <;> rcases h2 with h2 | ⟨rfl, h2⟩
    · exact .inl (by omega)
    · exact .inl h1
    · exact .inl h2
    · exact .inr ⟨rfl, lex_trans h1 h2⟩
theorem lex_tot : ∀ {a b : List Int}, a.length = b.length → a = b ∨ lex a b ∨ lex b a
  | [], [], _ => .inl rfl
  | [], _ :: _, h => by simp at h
  | _ :: _, [], h => by simp at h
  | x :: a, y :: b, h => by
    by_cases h1 : x < y
    · exact .inr (.inl (.inl h1))
    · by_cases h2 : y < x
      · exact .inr (.inr (.inl h2))
      · have e : x = y := by omega
        subst e
        rcases lex_tot (a := a) (b := b) (by simpa using h) with h3 | h3 | h3
        · exact .inl (by rw [h3])
        · exact .inr (.inl (.inr ⟨rfl, h3⟩))
        · exact .inr (.inr (.inr ⟨rfl, h3⟩))
theorem lex_app : ∀ {a b : List Int} (c d : List Int), lex a b → lex (a ++ c) (b ++ d)
  | [], _, _, _, h => h.elim
  | _ :: _, [], _, _, h => h.elim
  | _ :: _, _ :: _, c, d, h => by
    rcases h with h | ⟨e, h⟩
    · exact .inl h
    · exact .inr ⟨e, lex_app c d h⟩
theorem lex_end : ∀ (a : List Int) {x y : Int}, x < y → lex (a ++ [x]) (a ++ [y])
  | [], _, _, h => .inl h
  | _ :: a, _, _, h => .inr ⟨rfl, lex_end a h⟩
theorem incs_lex (n : Int) : ∀ k, (incs n k).Pairwise lex
  | 0 => by simp [incs]
  | k + 1 => by
    rw [incs, List.pairwise_flatMap]
    refine ⟨fun a _ => ?_, List.Pairwise.imp (fun {a b} h x hx y hy => ?_) (incs_lex n k)⟩
    · unfold nxt
      rw [List.pairwise_map]
      exact List.Pairwise.imp (fun h => lex_end a (by omega)) List.pairwise_lt_range
    · obtain ⟨i, _, rfl⟩ := nxt_mem hx
      obtain ⟨j, _, rfl⟩ := nxt_mem hy
      exact lex_app _ _ h
theorem incs_nodup (n : Int) (k : Nat) : (incs n k).Nodup :=
  List.Pairwise.imp (fun {a b} h e => by subst e; exact lex_irr a h) (incs_lex n k)
/-- the sets of so many, as bits -/
def setsK (n k : Nat) : List Nat := (List.range (2 ^ n)).filter fun b => (bitsL n b).length == k
theorem sets_perm (n k : Nat) : ((setsK n k).map (bitsL n)).Perm (incs n k) := by
  refine (List.perm_ext_iff_of_nodup ?_ (incs_nodup n k)).2 fun l => ?_
  · unfold setsK List.Nodup
    rw [List.pairwise_map, List.pairwise_filter]
    refine List.Pairwise.imp_of_mem (fun {a b} ha hb h _ _ e => ?_) List.pairwise_lt_range
    have := bits_inj (List.mem_range.1 ha) (List.mem_range.1 hb) e
    omega
  · rw [List.mem_map]
    constructor
    · rintro ⟨b, hb, rfl⟩
      unfold setsK at hb
      rw [List.mem_filter] at hb
      have := eq_of_beq hb.2
      rw [← this]
      exact bits_in n b
    · intro h
      obtain ⟨h1, h2⟩ := bits_incs h
      refine ⟨maskL l, ?_, h1⟩
      unfold setsK
      rw [List.mem_filter]
      exact ⟨List.mem_range.2 h2, by rw [h1, incs_len_eq _ _ _ h]; simp⟩
end Go.Proofs.Ytgcldgchhdjnhaa
namespace Go.Proofs.Ytgcldgchhdjnhaa

def pickB (h : Hall) (k : Nat) : List Nat := (setsK h.cs.length k).filter fun b => okW h (bitsL h.cs.length b)
def fewB (h : Hall) : Nat → Nat → List Nat
  | 0, _ => []
  | j + 1, k => if (pickB h k).isEmpty then fewB h j (k + 1) else pickB h k
def fewestB (h : Hall) : List Nat := fewB h (h.cs.length + 1) 0
theorem pick_perm (h : Hall) (k : Nat) : ((pickB h k).map (bitsL h.cs.length)).Perm (pickM h k) := by
  unfold pickB pickM
  have := (sets_perm h.cs.length k).filter (okW h)
  rw [List.filter_map] at this
  exact this
theorem few_perm (h : Hall) : ∀ j k, ((fewB h j k).map (bitsL h.cs.length)).Perm (fewM h j k)
  | 0, k => by simp [fewB, fewM]
  | j + 1, k => by
    have hp := pick_perm h k
    have hl := hp.length_eq
    rw [List.length_map] at hl
    unfold fewB fewM
    have e : (pickB h k).isEmpty = (pickM h k).isEmpty := by
      rw [Bool.eq_iff_iff, List.isEmpty_iff_length_eq_zero, List.isEmpty_iff_length_eq_zero, hl]
    rw [e]
    split
    · exact few_perm h j (k + 1)
    · exact hp
theorem fewest_perm (h : Hall) : ((fewestB h).map (bitsL h.cs.length)).Perm (fewestM h) := few_perm h _ _
theorem lists_eq (h : Hall) : (fewestB h).length = (fewestM h).length := by
  have := (fewest_perm h).length_eq
  rwa [List.length_map] at this
theorem fewB_mem {h : Hall} {b : Nat} : ∀ {j k : Nat}, b ∈ fewB h j k → b < 2 ^ h.cs.length
  | 0, _, hb => by simp [fewB] at hb
  | j + 1, k, hb => by
    unfold fewB at hb
    split at hb
    · exact fewB_mem hb
    · unfold pickB setsK at hb
      rw [List.mem_filter, List.mem_filter] at hb
      exact List.mem_range.1 hb.1.1
theorem kind_eq (h : Hall) {c : Nat} (hc : c < h.cs.length) : (fewestB h).countP (fun b => b.testBit c) = (fewestM h).countP (fun l => l.contains (c : Int)) := by
  rw [← (fewest_perm h).countP_eq, List.countP_map]
  refine List.countP_congr fun b hb => ?_
  simp only [Function.comp, List.contains_iff_mem, bits_mem, Int.toNat_natCast]
  have h0 : (0 : Int) ≤ c ∧ (c : Int) < h.cs.length := by omega
  simp [h0.1, h0.2]
theorem fewM_lex (h : Hall) : ∀ j k, (fewM h j k).Pairwise lex
  | 0, k => by simp [fewM]
  | j + 1, k => by
    unfold fewM
    split
    · exact fewM_lex h j (k + 1)
    · exact (incs_lex _ k).filter _
theorem fewM_same (h : Hall) {j k : Nat} {a b : List Int} (ha : a ∈ fewM h j k) (hb : b ∈ fewM h j k) : a.length = b.length := by
  obtain ⟨i, _, _, hi, he, _⟩ := fewM_mem ha
  rw [he] at hb
  unfold pickM at hi hb
  rw [incs_len_eq _ _ _ (List.mem_filter.1 hi).1, incs_len_eq _ _ _ (List.mem_filter.1 hb).1]
/-- the first of them, as it is sought -/
theorem best_eq {l m : List (List Int)} (hp : l.Perm m) (hm : m.Pairwise lex) {b : List Int} (hb : b ∈ l) (hmin : ∀ x ∈ l, ¬ lex x b) : m.headD [] = b := by
  cases m with
  | nil => simp [hp.eq_nil] at hb
  | cons x m =>
    rw [List.headD_cons]
    rw [List.pairwise_cons] at hm
    rcases List.mem_cons.1 (hp.mem_iff.1 hb) with e | e
    · exact e.symm
    · exact absurd (hm.1 b e) (hmin x (hp.mem_iff.2 (by simp)))
end Go.Proofs.Ytgcldgchhdjnhaa
namespace Go.Proofs.Ytgcldgchhdjnhaa

theorem range_rot {n t : Nat} (ht : t < n) : ((List.range n).map fun i => (i + t) % n).Perm (List.range n) := by
  refine (List.perm_ext_iff_of_nodup ?_ List.nodup_range).2 fun x => ?_
  · unfold List.Nodup
    rw [List.pairwise_map]
    refine List.Pairwise.imp_of_mem (fun {a b} ha hb h e => ?_) List.pairwise_lt_range
    have ha := List.mem_range.1 ha
    have hb := List.mem_range.1 hb
    have e1 : (a + t) % n = if a + t < n then a + t else a + t - n := by
      split
      · exact Nat.mod_eq_of_lt (by omega)
      · rw [Nat.mod_eq_sub_mod (by omega), Nat.mod_eq_of_lt (by omega)]
    have e2 : (b + t) % n = if b + t < n then b + t else b + t - n := by
      split
      · exact Nat.mod_eq_of_lt (by omega)
      · rw [Nat.mod_eq_sub_mod (by omega), Nat.mod_eq_of_lt (by omega)]
    rw [e1, e2] at e
    split at e <;> split at e <;> omega
  · rw [List.mem_map, List.mem_range]
    constructor
    · rintro ⟨i, _, rfl⟩
      exact Nat.mod_lt _ (by omega)
    · intro hx
      by_cases h : t ≤ x
      · exact ⟨x - t, List.mem_range.2 (by omega), by rw [Nat.sub_add_cancel h]; exact Nat.mod_eq_of_lt hx⟩
      · refine ⟨x + n - t, List.mem_range.2 (by omega), ?_⟩
        have : x + n - t + t = x + n := by omega
        rw [this, Nat.add_mod_right]
        exact Nat.mod_eq_of_lt hx
/-- a set of counters, as the turned list numbers them -/
def rotL (n t : Nat) (l : List Int) : List Int := ((List.range n).filter fun i => l.contains (((i + t) % n : Nat) : Int)).map fun (i : Nat) => (i : Int)
theorem rot_mem {n t : Nat} {l : List Int} {x : Int} : x ∈ rotL n t l ↔ 0 ≤ x ∧ x < n ∧ (((x.toNat + t) % n : Nat) : Int) ∈ l := by
  unfold rotL
  simp only [List.mem_map, List.mem_filter, List.mem_range, List.contains_iff_mem]
  constructor
  · rintro ⟨i, ⟨h1, h2⟩, rfl⟩
    exact ⟨by omega, by omega, by simpa using h2⟩
  · rintro ⟨h1, h2, h3⟩
    exact ⟨x.toNat, ⟨by omega, h3⟩, by omega⟩
theorem rot_sorted (n t : Nat) (l : List Int) : (rotL n t l).Pairwise (· < ·) := by
  unfold rotL
  rw [List.pairwise_map]
  exact List.Pairwise.imp (fun h => by omega) (List.pairwise_lt_range.filter _)
theorem self_len {n : Nat} {l : List Int} (hs : l.Pairwise (· < ·)) (hb : ∀ x ∈ l, 0 ≤ x ∧ x < n) : ((List.range n).map fun (i : Nat) => (i : Int)).filter (fun x => l.contains x) = l := by
  refine sorted_ext ?_ hs fun x => ?_
  · refine List.Pairwise.filter _ ?_
    rw [List.pairwise_map]
    exact List.Pairwise.imp (fun h => by omega) List.pairwise_lt_range
  · simp only [List.mem_filter, List.mem_map, List.mem_range, List.contains_iff_mem]
    constructor
    · exact fun h => h.2
    · intro h
      have := hb x h
      exact ⟨⟨x.toNat, by omega, by omega⟩, h⟩
theorem rot_len {n t k : Nat} (ht : t < n) {l : List Int} (h : l ∈ incs n k) : (rotL n t l).length = k := by
  have hs := incs_sorted (by omega) k l h
  have hb : ∀ x ∈ l, 0 ≤ x ∧ x < (n : Int) := fun x hx => by
    have hi := incs_inc (by omega) k l h
    have := hi.1 x hx
    have := hi.2.1
    omega
  have e := congrArg List.length (self_len hs hb)
  rw [List.filter_map, List.length_map, incs_len_eq _ _ _ h] at e
  unfold rotL
  have e3 := (range_rot ht).countP_eq ((fun (x : Int) => l.contains x) ∘ fun (i : Nat) => (i : Int))
  rw [List.countP_map] at e3
  rw [List.length_map, ← e, ← List.countP_eq_length_filter, ← List.countP_eq_length_filter, ← e3]
  rfl
theorem rot_in {n t k : Nat} (ht : t < n) {l : List Int} (h : l ∈ incs n k) : rotL n t l ∈ incs n k :=
  incs_all (by omega) k _ (rot_len ht h) (rot_sorted _ _ _) fun _ hx => ⟨(rot_mem.1 hx).1, (rot_mem.1 hx).2.1⟩
theorem rot_back {n t u k : Nat} (hu : (t + u) % n = 0) {l : List Int} (h : l ∈ incs n k) : rotL n t (rotL n u l) = l := by
  have hb : ∀ x ∈ l, 0 ≤ x ∧ x < (n : Int) := fun x hx => by
    have hi := incs_inc (by omega) k l h
    have := hi.1 x hx
    have := hi.2.1
    omega
  have key : ∀ x : Int, 0 ≤ x → x < n → ((((((x.toNat + t) % n : Nat) : Int).toNat + u) % n : Nat) : Int) = x := fun x h0 h1 => by
    rw [Int.toNat_natCast, Nat.mod_add_mod, Nat.add_assoc, Nat.add_mod, hu, Nat.add_zero, Nat.mod_mod, Nat.mod_eq_of_lt (by omega), Int.toNat_of_nonneg h0]
  refine sorted_ext (rot_sorted _ _ _) (incs_sorted (by omega) k l h) fun x => ?_
  rw [rot_mem, rot_mem]
  constructor
  · rintro ⟨h0, h1, _, _, h3⟩
    rwa [key x h0 h1] at h3
  · intro hx
    obtain ⟨h0, h1⟩ := hb x hx
    refine ⟨h0, h1, by omega, ?_, by rwa [key x h0 h1]⟩
    have := Nat.mod_lt (x.toNat + t) (y := n) (by omega)
    omega
theorem incs_rot {n t : Nat} (ht : t < n) (k : Nat) : ((incs n k).map (rotL n t)).Perm (incs n k) := by
  have h1 : ((n - t) % n + t) % n = 0 := by
    rw [Nat.mod_add_mod, Nat.sub_add_cancel (by omega), Nat.mod_self]
  have h2 : (t + (n - t) % n) % n = 0 := by rwa [Nat.add_comm]
  have hlt : (n - t) % n < n := Nat.mod_lt _ (by omega)
  refine (List.perm_ext_iff_of_nodup ?_ (incs_nodup n k)).2 fun l => ?_
  · have hn := incs_nodup n k
    unfold List.Nodup at hn ⊢
    rw [List.pairwise_map]
    refine List.Pairwise.imp_of_mem (fun {a b} ha hb h e => h ?_) hn
    rw [← rot_back h1 ha, ← rot_back h1 hb, e]
  · rw [List.mem_map]
    constructor
    · rintro ⟨m, hm, rfl⟩
      exact rot_in ht hm
    · exact fun h => ⟨_, rot_in hlt h, rot_back h2 h⟩
end Go.Proofs.Ytgcldgchhdjnhaa
namespace Go.Proofs.Ytgcldgchhdjnhaa

theorem kept_cat (l : List Int) : ∀ (a b : List Cnt) (i : Nat), kept l i (a ++ b) = kept l i a ++ kept l (i + a.length) b
  | [], b, i => by simp [kept]
  | c :: a, b, i => by
    rw [List.cons_append, kept, kept, kept_cat l a b (i + 1)]
    have e : i + 1 + a.length = i + (c :: a).length := by simp; omega
    rw [e]
    split <;> rfl
theorem kept_congr {l m : List Int} : ∀ (cs : List Cnt) (i j : Nat), (∀ k : Nat, k < cs.length → l.contains ((i + k : Nat) : Int) = m.contains ((j + k : Nat) : Int)) → kept l i cs = kept m j cs
  | [], _, _, _ => rfl
  | c :: cs, i, j, h => by
    have h0 := h 0 (by simp)
    simp only [Nat.add_zero] at h0
    have ih := kept_congr (l := l) (m := m) cs (i + 1) (j + 1) fun k hk => by
      have := h (k + 1) (by simp; omega)
      rwa [← Nat.add_assoc, ← Nat.add_assoc, Nat.add_right_comm i, Nat.add_right_comm j] at this
    rw [kept, kept, h0, ih]
/-- the hall whose counters are turned by so many -/
def turnH (h : Hall) (t : Nat) : Hall := { h with cs := h.cs.drop t ++ h.cs.take t }
theorem turn_len (h : Hall) (t : Nat) : (turnH h t).cs.length = h.cs.length := by
  simp only [turnH, List.length_append, List.length_drop, List.length_take]
  omega
theorem turn_mem (h : Hall) (t : Nat) (c : Cnt) : c ∈ (turnH h t).cs ↔ c ∈ h.cs := by
  conv => rhs; rw [← List.take_append_drop t h.cs]
  simp only [turnH, List.mem_append]
  exact Or.comm
theorem turn_valid {h : Hall} (v : Valid h) (t : Nat) : Valid (turnH h t) :=
  ⟨v.n1, v.n10, by rw [turn_len]; exact v.len, v.m0, v.m1, fun c hc => v.cs c ((turn_mem h t c).1 hc)⟩
theorem pot_mem {h x : Hall} (hn : x.n = h.n) (hm : x.most = h.most) (hc : ∀ c, c ∈ x.cs ↔ c ∈ h.cs) {d : Nat → Int} : Pot x d ↔ Pot h d := by
  rw [pot_iff, pot_iff, hn, hm]
  exact and_congr Iff.rfl (forall_congr' fun c => imp_congr (hc c) Iff.rfl)
theorem turn_wo (h : Hall) {t : Nat} (ht : t < h.cs.length) (l : List Int) (c : Cnt) : c ∈ (wo (turnH h t) (rotL h.cs.length t l)).cs ↔ c ∈ (wo h l).cs := by
  have e1 : (wo h l).cs = kept l 0 (h.cs.take t) ++ kept l t (h.cs.drop t) := by
    show kept l 0 h.cs = _
    conv => lhs; rw [← List.take_append_drop t h.cs]
    rw [kept_cat, List.length_take, Nat.zero_add, Nat.min_eq_left (by omega)]
  have e2 : (wo (turnH h t) (rotL h.cs.length t l)).cs = kept l t (h.cs.drop t) ++ kept l 0 (h.cs.take t) := by
    show kept (rotL h.cs.length t l) 0 (h.cs.drop t ++ h.cs.take t) = _
    rw [kept_cat]
    congr 1
    · refine kept_congr _ 0 t fun k hk => ?_
      rw [List.length_drop] at hk
      rw [Bool.eq_iff_iff, List.contains_iff_mem, List.contains_iff_mem, rot_mem, Int.toNat_natCast, Nat.zero_add, Nat.mod_eq_of_lt (by omega), Nat.add_comm k t]
      exact ⟨fun h => h.2.2, fun h => ⟨by omega, by omega, h⟩⟩
    · refine kept_congr _ _ 0 fun k hk => ?_
      rw [List.length_take] at hk
      rw [List.length_drop, Bool.eq_iff_iff, List.contains_iff_mem, List.contains_iff_mem, rot_mem, Int.toNat_natCast, Nat.zero_add]
      have e4 : h.cs.length - t + k + t = k + h.cs.length := by omega
      simp only [e4, Nat.add_mod_right, Nat.mod_eq_of_lt (show k < h.cs.length by omega), Nat.zero_add]
      exact ⟨fun h => h.2.2, fun h => ⟨by omega, by omega, h⟩⟩
  rw [e1, e2, List.mem_append, List.mem_append]
  exact Or.comm
theorem turn_ok {h : Hall} (v : Valid h) {t : Nat} (ht : t < h.cs.length) (l : List Int) : okW (turnH h t) (rotL h.cs.length t l) = okW h l := by
  rw [Bool.eq_iff_iff, okW_iff (turn_valid v t), okW_iff v]
  exact exists_congr fun d => pot_mem (h := wo h l) (x := wo (turnH h t) (rotL h.cs.length t l)) rfl rfl (turn_wo h ht l)
theorem turn_pick {h : Hall} (v : Valid h) {t : Nat} (ht : t < h.cs.length) (k : Nat) : ((pickM h k).map (rotL h.cs.length t)).Perm (pickM (turnH h t) k) := by
  have e : pickM h k = (incs h.cs.length k).filter (okW (turnH h t) ∘ rotL h.cs.length t) := by
    unfold pickM
    exact List.filter_congr fun l _ => (turn_ok v ht l).symm
  rw [e, ← List.filter_map]
  have := (incs_rot ht k).filter (okW (turnH h t))
  unfold pickM
  rw [turn_len]
  exact this
theorem turn_few {h : Hall} (v : Valid h) {t : Nat} (ht : t < h.cs.length) : ∀ j k, ((fewM h j k).map (rotL h.cs.length t)).Perm (fewM (turnH h t) j k)
  | 0, k => by simp [fewM]
  | j + 1, k => by
    have hp := turn_pick v ht k
    have hl := hp.length_eq
    rw [List.length_map] at hl
    unfold fewM
    have e : (pickM h k).isEmpty = (pickM (turnH h t) k).isEmpty := by
      rw [Bool.eq_iff_iff, List.isEmpty_iff_length_eq_zero, List.isEmpty_iff_length_eq_zero, hl]
    rw [e]
    split
    · exact turn_few v ht j (k + 1)
    · exact hp
theorem turn_fewest {h : Hall} (v : Valid h) {t : Nat} (ht : t < h.cs.length) : ((fewestM h).map (rotL h.cs.length t)).Perm (fewestM (turnH h t)) := by
  unfold fewestM
  rw [turn_len]
  exact turn_few v ht _ _
theorem turn_lists {h : Hall} (v : Valid h) {t : Nat} (ht : t < h.cs.length) : (fewestM (turnH h t)).length = (fewestM h).length := by
  have := (turn_fewest v ht).length_eq
  rw [List.length_map] at this
  exact this.symm
theorem turn_kind {h : Hall} (v : Valid h) {t : Nat} (ht : t < h.cs.length) {k : Nat} (hk : k < h.cs.length) :
    (fewestM (turnH h t)).countP (fun l => l.contains (((k + h.cs.length - t) % h.cs.length : Nat) : Int)) = (fewestM h).countP fun l => l.contains (k : Int) := by
  rw [← (turn_fewest v ht).countP_eq, List.countP_map]
  refine List.countP_congr fun l _ => ?_
  have hlt := Nat.mod_lt (k + h.cs.length - t) (y := h.cs.length) (by omega)
  have e : ((k + h.cs.length - t) % h.cs.length + t) % h.cs.length = k := by
    rw [Nat.mod_add_mod, Nat.sub_add_cancel (by omega), Nat.add_mod_right, Nat.mod_eq_of_lt hk]
  simp only [Function.comp, List.contains_iff_mem, rot_mem, Int.toNat_natCast, e]
  exact ⟨fun h => h.2.2, fun h => ⟨by omega, by omega, h⟩⟩
end Go.Proofs.Ytgcldgchhdjnhaa
