/-
  Wrong counters and rings, plain: rings that are apart are no more than the counters of Wrong; what the fewest are.
-/
import Derived.Test.YtgcldgchhdjnhaaMath2
namespace Go.Proofs.Ytgcldgchhdjnhaa
theorem way_of {h : Hall} {d : Nat → Int} : ∀ {l : List Stp} {f t s : Int}, (∀ x ∈ l, d (dst h x).toNat ≤ d (src h x).toNat + cost h x) → fol h s f l = (s + (l.map (cost h)).sum, t, true) → d t.toNat ≤ d f.toNat + (l.map (cost h)).sum
  | [], f, t, s, _, e => by
    simp [fol] at e
    simp [e]
  | x :: l, f, t, s, hx, e => by
    unfold fol at e
    by_cases hs : src h x = f
    · rw [if_pos hs] at e
      have h1 := hx x (by simp)
      have h2 := way_of (l := l) (f := dst h x) (t := t) (s := s + cost h x) (fun y hy => hx y (by simp [hy])) (by rw [e]; simp [Int.add_assoc])
      rw [hs] at h1
      simp only [List.map_cons, List.sum_cons]
      omega
    · rw [if_neg hs] at e
      simp at e
theorem noRing_of {h : Hall} {d : Nat → Int} {l : List Stp} (ok : ∀ x ∈ l, okStp h x = true) (hx : ∀ x ∈ l, d (dst h x).toNat ≤ d (src h x).toNat + cost h x) : isRingM h l = false := by
  cases e : isRingM h l with
  | false => rfl
  | true =>
    obtain ⟨f, hw, hn, _⟩ := isW_of_ring ok e
    have := way_of hx (hw.2 0)
    omega
theorem kept_has {l : List Int} : ∀ (cs : List Cnt) (i j : Nat) (hj : j < cs.length), l.contains ((i + j : Nat) : Int) = false → cs[j] ∈ kept l i cs
  | c :: cs, i, 0, _, h => by
    simp only [Nat.add_zero] at h
    unfold kept
    rw [if_neg (by rw [h]; simp)]
    simp
  | c :: cs, i, j + 1, hj, h => by
    have := kept_has cs (i + 1) j (by simpa using hj) (by rw [show i + 1 + j = i + (j + 1) by omega]; exact h)
    unfold kept
    by_cases hc : l.contains (i : Int) = true
    · rw [if_pos hc]; exact this
    · rw [if_neg hc]; exact List.mem_cons_of_mem _ this
/-- a ring goes over one of the counters without which the others agree -/
theorem ring_uses {h : Hall} (v : Valid h) {l : List Int} (g : Agr (wo h l)) {r : List Stp} (ok : ∀ x ∈ r, okStp h x = true) (hr : isRingM h r = true) : ∃ c ∈ l, usesM r c = true := by
  obtain ⟨d, p⟩ := g
  obtain ⟨p1, p2⟩ := pot_iff.1 p
  by_cases hx : ∃ c ∈ l, usesM r c = true
  · exact hx
  · exfalso
    have := noRing_of (d := d) ok fun x hxr => by
      have o := ok x hxr
      have hv := stpC_ok v o
      obtain ⟨xw, xi, xb⟩ := x
      cases xw
      · simp [okStp] at o
        have hno : l.contains xi = false := by
          cases hc : l.contains xi with
          | false => rfl
          | true =>
            exact absurd ⟨xi, by simpa using hc, by unfold usesM; rw [List.any_eq_true]; exact ⟨_, hxr, by simp⟩⟩ hx
        have hl : xi.toNat < h.cs.length := by omega
        have hm := kept_has (l := l) h.cs 0 xi.toNat hl (by rw [Nat.zero_add, Int.toNat_of_nonneg o.1]; exact hno)
        have hc := p2 _ hm
        have e : stpC h ⟨false, xi, xb⟩ = h.cs[xi.toNat] := by
          unfold stpC
          simp [List.getD, hl]
        unfold dst src cost
        rw [e]
        cases xb <;> simp <;> omega
      · simp [okStp] at o
        have hw := p1 xi.toNat (by show ((xi.toNat : Nat) : Int) < h.n; omega)
        have e1 : (xi + 1).toNat = xi.toNat + 1 := by omega
        have hmost : (wo h l).most = h.most := rfl
        rw [hmost] at hw
        unfold dst src cost stpC
        cases xb <;> simp [e1] <;> omega
    rw [hr] at this
    cases this
theorem count_le {α β : Type} (u : α → β → Bool) (l : List β) : ∀ (ll : List α), (∀ r ∈ ll, ∃ c ∈ l, u r c = true) → ll.length ≤ (l.map fun c => ll.countP fun r => u r c).sum
  | [], _ => by simp
  | r :: ll, h => by
    have ih := count_le u l ll fun x hx => h x (by simp [hx])
    obtain ⟨c, hc, hu⟩ := h r (by simp)
    have key : ∀ l' : List β, (l'.map fun c => (r :: ll).countP fun r => u r c).sum = (l'.map fun c => ll.countP fun r => u r c).sum + l'.countP (u r) := by
      intro l'
      induction l' with
      | nil => simp
      | cons b l' ih =>
        rw [List.map_cons, List.sum_cons, List.map_cons, List.sum_cons, ih, List.countP_cons, List.countP_cons]
        omega
    rw [key]
    have : 0 < l.countP (u r) := List.countP_pos_iff.2 ⟨c, hc, hu⟩
    simp only [List.length_cons]
    omega
theorem sum_ones {α : Type} (f : α → Nat) (h : ∀ x, f x ≤ 1) : ∀ l : List α, (l.map f).sum ≤ l.length
  | [] => by simp
  | x :: l => by
    have := sum_ones f h l
    have := h x
    simp only [List.map_cons, List.sum_cons, List.length_cons]
    omega
/-- rings that are apart are no more than counters without which the others agree -/
theorem rings_le {h : Hall} (v : Valid h) {l : List Int} (hl : ∀ x ∈ l, 0 ≤ x ∧ x < h.cs.length) (g : Agr (wo h l)) {ll : List (List Stp)} (e : ringsErrR h ll = 0) : ll.length ≤ l.length := by
  unfold ringsErrR at e
  rw [if_neg (fun hh => hh (chk_of_valid v))] at e
  by_cases h1 : 20 < ll.length ∨ ll.any (fun r => decide (200 < r.length)) = true
  · rw [if_pos h1] at e; omega
  rw [if_neg h1] at e
  by_cases h2 : ll.any (fun r => r.any (oddS h)) = true
  · rw [if_pos h2] at e; omega
  rw [if_neg h2] at e
  by_cases h3 : ll.any (fun r => !isRingM h r) = true
  · rw [if_pos h3] at e; omega
  rw [if_neg h3] at e
  by_cases h4 : (List.range h.cs.length).any (fun c => decide (1 < usedBy ll c)) = true
  · rw [if_pos h4] at e; omega
  have hr : ∀ r ∈ ll, (∀ x ∈ r, okStp h x = true) ∧ isRingM h r = true := fun r hr => by
    refine ⟨fun x hx => ?_, ?_⟩
    · cases o : okStp h x with
      | true => rfl
      | false => exact absurd (by rw [List.any_eq_true]; exact ⟨r, hr, by rw [List.any_eq_true]; exact ⟨x, hx, by simp [oddS, o]⟩⟩) h2
    · cases o : isRingM h r with
      | true => rfl
      | false => exact absurd (by rw [List.any_eq_true]; exact ⟨r, hr, by simp [o]⟩) h3
  have hc := count_le (fun (r : List Stp) (c : Int) => usesM r c) l ll fun r hrr => ring_uses v g (hr r hrr).1 (hr r hrr).2
  have h1 : (l.map fun c => ll.countP fun r => usesM r c).sum ≤ l.length := by
    have key : ∀ m : List Int, (∀ x ∈ m, 0 ≤ x ∧ x < h.cs.length) → (m.map fun c => ll.countP fun r => usesM r c).sum ≤ m.length := by
      intro m
      induction m with
      | nil => simp
      | cons c m ih =>
        intro hm
        have := ih fun x hx => hm x (by simp [hx])
        have hcc := hm c (by simp)
        have hu : ll.countP (fun r => usesM r c) ≤ 1 := by
          have hn : ¬ 1 < usedBy ll c.toNat := fun hh => h4 (by rw [List.any_eq_true]; exact ⟨c.toNat, by simp; omega, by simpa using hh⟩)
          unfold usedBy at hn
          rw [Int.toNat_of_nonneg hcc.1] at hn
          omega
        simp only [List.map_cons, List.sum_cons, List.length_cons]
        omega
    exact key l hl
  omega
/-- what Wrong returns -/
structure IsWrong (h : Hall) (l : List Int) : Prop where
  mem : l ∈ fewestM h
  inc : l ∈ incs h.cs.length l.length
  ok : (leastM (wo h l) 0).2 = true
  least : ∀ g, g ∈ incs h.cs.length g.length → (leastM (wo h g) 0).2 = true → l.length ≤ g.length ∧ (g.length = l.length → ¬ lex g l)
theorem isWrong {h : Hall} (v : Valid h) : IsWrong h (wrongL h) := by
  have hne := fewestM_ne v
  have hw : wrongL h ∈ fewestM h := by
    unfold wrongL
    rw [if_pos (chk_of_valid v)]
    cases e : fewestM h with
    | nil => exact absurd e hne
    | cons a t => simp
  have hlex := fewM_lex h (h.cs.length + 1) 0
  obtain ⟨i, h1, h2, h3, h4, h5⟩ := fewM_mem hw
  have hf := List.mem_filter.1 h3
  have hl : (wrongL h).length = i := incs_len_eq _ _ _ hf.1
  refine ⟨hw, by rw [hl]; exact hf.1, hf.2, fun g hg hok => ?_⟩
  have hgp : g ∈ pickM h g.length := List.mem_filter.2 ⟨hg, hok⟩
  refine ⟨?_, fun e hlt => ?_⟩
  · rcases Nat.lt_or_ge g.length (wrongL h).length with hh | hh
    · rw [h5 g.length (by omega) (by omega)] at hgp
      cases hgp
    · exact hh
  · rw [e, hl] at hgp
    have hgf : g ∈ fewestM h := by
      have : fewestM h = pickM h i := h4
      rw [this]; exact hgp
    have hhead : wrongL h = (fewestM h).headD [] := by unfold wrongL; rw [if_pos (chk_of_valid v)]
    cases ef : fewestM h with
    | nil => exact hne ef
    | cons a t =>
      rw [ef] at hgf hhead
      simp at hhead
      have hpw : (fewestM h).Pairwise lex := hlex
      rw [ef] at hpw
      rcases List.mem_cons.1 hgf with hh | hh
      · subst hh
        rw [hhead] at hlt
        exact lex_irr _ hlt
      · have := (List.pairwise_cons.1 hpw).1 g hh
        rw [hhead] at hlt
        exact lex_irr _ (lex_trans this hlt)
theorem wrong_kind {h : Hall} (v : Valid h) {x : Int} (hx : x ∈ wrongL h) : kindErr h x = 0 ∧ (kindN h x = 1 ∨ kindN h x = 2) := by
  have iw := isWrong v
  have hb := (bits_incs iw.inc)
  have hin : 0 ≤ x ∧ x < h.cs.length := by
    rw [← hb.1] at hx
    have := bits_mem.1 hx
    omega
  have e : kindErr h x = 0 := by unfold kindErr; rw [if_neg (fun hh => hh (chk_of_valid v)), if_neg (by omega)]
  refine ⟨e, ?_⟩
  have hpos : 0 < (fewestM h).countP (fun l => l.contains x) := List.countP_pos_iff.2 ⟨_, iw.mem, by simpa using hx⟩
  unfold kindN
  rw [if_neg (by rw [e]; omega), if_neg (by omega)]
  split
  · right; rfl
  · left; rfl
end Go.Proofs.Ytgcldgchhdjnhaa
