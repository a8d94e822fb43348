/-
  Plain: what a span is: between its ends, and between no others, lie the tickets of windows in truths; halls with one more counter, or with others that ask more.
-/
import Derived.Test.YtgcldgchhdjnhaaTru
namespace Go.Proofs.Ytgcldgchhdjnhaa

/-- least sums between two places of a hall whose counters agree -/
def ds (h : Hall) (a b : Nat) : Int := (leastM h a).1.sums b
section
variable {h : Hall} (v : Valid h) (g : Agr h)
include v g
theorem agr_st (a : Nat) : (leastM h a).2 = true := by
  obtain ⟨d, p⟩ := g
  exact agree_of_pot v p a
theorem ds_pot {a : Nat} (ha : (a : Int) ≤ h.n) : Pot h (ds h a) := (leastM_low v ha (agr_st v g a)).pot
theorem ds_self {a : Nat} (ha : (a : Int) ≤ h.n) : ds h a a = 0 := (leastM_low v ha (agr_st v g a)).st0
/-- no potential rises by more -/
theorem ds_le {d : Nat → Int} (p : Pot h d) {a b : Nat} (ha : (a : Int) ≤ h.n) (hb : (b : Int) ≤ h.n) : d b ≤ d a + ds h a b := by
  obtain ⟨K, _, _, hw, hs⟩ := (leastM_low v ha (agr_st v g a)).chain b hb
  have := p.way hw
  rw [hs] at this
  simpa [ds] using this
theorem ds_tri {a b c : Nat} (ha : (a : Int) ≤ h.n) (hb : (b : Int) ≤ h.n) (hc : (c : Int) ≤ h.n) : ds h a c ≤ ds h a b + ds h b c := ds_le v g (ds_pot v g ha) hb hc
theorem ds_back {a b : Nat} (ha : (a : Int) ≤ h.n) (hb : (b : Int) ≤ h.n) : 0 ≤ ds h a b + ds h b a := by
  have h1 := ds_tri v g ha hb ha
  have h2 := ds_self v g ha
  omega
theorem way_ge {a b : Nat} (ha : (a : Int) ≤ h.n) {l : List Stp} (w : IsW h a l b) : ds h a b ≤ (l.map (cost h)).sum := by
  have h1 := (ds_pot v g ha).way w
  have h2 := ds_self v g ha
  simp only [Int.toNat_natCast] at h1
  omega
/-- each number between the ends is had -/
theorem ds_mid {a b : Nat} (ha : (a : Int) ≤ h.n) (hb : (b : Int) ≤ h.n) {n : Int} (h1 : -(ds h b a) ≤ n) (h2 : n ≤ ds h a b) : ∃ d, Pot h d ∧ d b - d a = n := by
  have pa := ds_pot v g ha
  have pb := ds_pot v g hb
  refine ⟨fun i => min (ds h a i) (ds h b i + n), fun x o => ?_, ?_⟩
  · have q1 := pa x o
    have q2 := pb x o
    simp only
    omega
  · have q1 := ds_self v g ha
    have q2 := ds_self v g hb
    simp only
    omega
end
/-- a hall whose potentials are another one's, as far as two places go: its span there is within -/
theorem ds_sub {h x : Hall} (v : Valid h) (vx : Valid x) (gx : Agr x) {a b a' b' : Nat} (ha : (a : Int) ≤ h.n) (hb : (b : Int) ≤ h.n) (ha' : (a' : Int) ≤ x.n) (_ : (b' : Int) ≤ x.n)
    (hs : ∀ d, Pot x d → ∃ d', Pot h d' ∧ d' b - d' a = d b' - d a') : Agr h ∧ ds x a' b' ≤ ds h a b := by
  have px := ds_pot vx gx ha'
  obtain ⟨d', p, e⟩ := hs _ px
  have g : Agr h := ⟨d', p⟩
  have h1 := ds_le v g p ha hb
  have h2 := ds_self vx gx ha'
  exact ⟨g, by omega⟩
/-- a hall with one more counter -/
def withH (h : Hall) (c : Cnt) : Hall := { h with cs := h.cs ++ [c] }
theorem pot_with {h : Hall} {c : Cnt} {d : Nat → Int} : Pot (withH h c) d ↔ Pot h d ∧ c.lo ≤ d (c.t + 1).toNat - d c.f.toNat ∧ d (c.t + 1).toNat - d c.f.toNat ≤ c.hi := by
  have hl : (withH h c).cs.length = h.cs.length + 1 := by simp [withH]
  have same : ∀ x : Stp, okStp h x = true → okStp (withH h c) x = true ∧ stpC (withH h c) x = stpC h x := fun x o => by
    unfold okStp at o ⊢
    unfold stpC
    cases hw : x.win with
    | true => rw [hw] at o; exact ⟨o, rfl⟩
    | false =>
      rw [hw] at o
      simp only [Bool.false_eq_true, if_false, Bool.and_eq_true, decide_eq_true_eq] at o ⊢
      refine ⟨⟨o.1, by rw [hl]; omega⟩, ?_⟩
      have : x.idx.toNat < h.cs.length := by omega
      simp [withH, List.getD, List.getElem?_append_left this]
  have new : ∀ b, okStp (withH h c) ⟨false, h.cs.length, b⟩ = true ∧ stpC (withH h c) ⟨false, h.cs.length, b⟩ = c := fun b => by
    refine ⟨by simp [okStp, hl]; omega, ?_⟩
    simp [stpC, withH, List.getD]
  constructor
  · intro p
    refine ⟨fun x o => ?_, ?_⟩
    · obtain ⟨o', e⟩ := same x o
      have := p x o'
      unfold src dst cost at this ⊢
      rw [e] at this
      exact this
    · have p1 := p _ (new false).1
      have p2 := p _ (new true).1
      unfold src dst cost at p1 p2
      rw [(new false).2] at p1
      rw [(new true).2] at p2
      simp at p1 p2
      omega
  · intro ⟨p, h1, h2⟩ x o
    by_cases hx : okStp h x = true
    · obtain ⟨o', e⟩ := same x hx
      have := p x hx
      unfold src dst cost at this ⊢
      rw [e]
      exact this
    · have hw : x.win = false ∧ x.idx = h.cs.length := by
        unfold okStp at o hx
        cases hw : x.win with
        | true => rw [hw] at o hx; exact absurd o hx
        | false =>
          rw [hw] at o hx
          simp only [Bool.false_eq_true, if_false, Bool.and_eq_true, decide_eq_true_eq] at o hx
          rw [hl] at o
          exact ⟨rfl, by omega⟩
      obtain ⟨xw, xi, xb⟩ := x
      obtain ⟨rfl, rfl⟩ : xw = false ∧ xi = h.cs.length := hw
      unfold src dst cost
      rw [(new xb).2]
      cases xb <;> simp <;> omega
theorem with_valid {h : Hall} (v : Valid h) {c : Cnt} (hl : h.cs.length < 10) (hc : 0 ≤ c.f ∧ c.f ≤ c.t ∧ c.t < h.n ∧ 0 ≤ c.lo ∧ c.lo ≤ c.hi ∧ c.hi ≤ 10000000) : Valid (withH h c) :=
  ⟨v.n1, v.n10, by simp [withH]; omega, v.m0, v.m1, fun x hx => by
    simp only [withH, List.mem_append, List.mem_singleton] at hx
    rcases hx with hx | rfl
    · exact v.cs x hx
    · exact hc⟩
/-- do the counters agree with one more? -/
theorem agr_with {h : Hall} (v : Valid h) (g : Agr h) {a b : Nat} {lo hi : Int} (ha : (a : Int) ≤ b) (hb : (b : Int) < h.n) : Agr (withH h ⟨a, b, lo, hi⟩) ↔ lo ≤ ds h a (b + 1) ∧ -(ds h (b + 1) a) ≤ hi ∧ lo ≤ hi := by
  have hA : (a : Int) ≤ h.n := by omega
  have hB : ((b + 1 : Nat) : Int) ≤ h.n := by omega
  have e1 : ((b : Int) + 1).toNat = b + 1 := by omega
  constructor
  · rintro ⟨d, p⟩
    obtain ⟨p, h1, h2⟩ := pot_with.1 p
    simp only [e1, Int.toNat_natCast] at h1 h2
    have q1 := ds_le v g p hA hB
    have q2 := ds_le v g p hB hA
    omega
  · rintro ⟨h1, h2, h3⟩
    have hbk := ds_back v g hA hB
    obtain ⟨d, p, e⟩ := ds_mid v g hA hB (n := max lo (-(ds h (b + 1) a))) (by omega) (by omega)
    refine ⟨d, pot_with.2 ⟨p, ?_, ?_⟩⟩
    · simp only [e1, Int.toNat_natCast]; omega
    · simp only [e1, Int.toNat_natCast]; omega
theorem ds_sum_le {h : Hall} (v : Valid h) (g : Agr h) {a b : Nat} (ha : a ≤ b) (hb : (b : Int) ≤ h.n) : ds h a b ≤ h.most * (b - a : Nat) ∧ 0 ≤ -(ds h b a) := by
  have m0 := v.m0
  have key : ∀ k, a + k ≤ b → ds h a (a + k) ≤ h.most * k ∧ ds h (a + k) a ≤ 0 := by
    intro k
    induction k with
    | zero =>
      intro _
      have := ds_self v g (a := a) (by omega)
      rw [Nat.add_zero]
      omega
    | succ k ih =>
      intro hk
      obtain ⟨i1, i2⟩ := ih (by omega)
      have w1 := pot_win (ds_pot v g (a := a) (by omega)) (i := a + k) (by omega)
      have w2 := pot_win (ds_pot v g (a := a + (k + 1)) (by omega)) (i := a + k) (by omega)
      have q := ds_tri v g (a := a + (k + 1)) (b := a + k) (c := a) (by omega) (by omega) (by omega)
      have s := ds_self v g (a := a + (k + 1)) (by omega)
      have e : h.most * ((k + 1 : Nat) : Int) = h.most * k + h.most := by rw [Int.natCast_add, Int.mul_add]; simp
      have e2 : a + k + 1 = a + (k + 1) := by omega
      rw [e2] at w1 w2
      omega
  have := key (b - a) (by omega)
  rw [show a + (b - a) = b by omega] at this
  omega
end Go.Proofs.Ytgcldgchhdjnhaa
