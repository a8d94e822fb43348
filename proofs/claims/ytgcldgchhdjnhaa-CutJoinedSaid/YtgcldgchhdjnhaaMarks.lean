/-
  Plain: rings are apart, as the program marks counters, just if no counter is used by two of them, as the reference counts.
-/
import Derived.Test.YtgcldgchhdjnhaaMath
namespace Go.Proofs.Ytgcldgchhdjnhaa

theorem usesM_cons (x : Stp) (l : List Stp) (c : Int) : usesM (x :: l) c = ((!x.win && (x.idx == c)) || usesM l c) := by simp [usesM]
theorem mark_spec (i : Int) (hi : 0 ≤ i) : ∀ (l : List Stp) (a : Nat → Int), (∀ x ∈ l, 0 ≤ x.idx) →
    (mark a i l = none ∧ ∃ c : Nat, usesM l c = true ∧ 0 < a c ∧ a c ≠ i + 1) ∨ ∃ a', mark a i l = some a' ∧ (∀ c : Nat, usesM l c = true → a c ≤ 0 ∨ a c = i + 1) ∧ ∀ c : Nat, a' c = if usesM l c = true then i + 1 else a c
  | [], a, _ => .inr ⟨a, rfl, fun c h => by simp [usesM] at h, fun c => by simp [usesM]⟩
  | x :: l, a, hx => by
    have hx0 := hx x (by simp)
    rw [mark]
    cases hw : x.win with
    | true =>
      rw [if_pos rfl]
      have e : ∀ c : Int, usesM (x :: l) c = usesM l c := fun c => by rw [usesM_cons, hw]; rfl
      rcases mark_spec i hi l a (fun y hy => hx y (by simp [hy])) with ⟨h1, c, h2, h3, h4⟩ | ⟨a', h1, h2, h3⟩
      · exact .inl ⟨h1, c, by rw [e]; exact h2, h3, h4⟩
      · exact .inr ⟨a', h1, fun c hc => h2 c (by rw [← e]; exact hc), fun c => by rw [e]; exact h3 c⟩
    | false =>
      rw [if_neg (by simp)]
      have e : ∀ c : Nat, usesM (x :: l) c = (decide (x.idx.toNat = c) || usesM l c) := fun c => by
        rw [usesM_cons, hw]
        have : (x.idx == (c : Int)) = decide (x.idx.toNat = c) := by
          rw [Bool.eq_iff_iff]
          simp
          omega
        rw [this]; rfl
      by_cases hb : 0 < a x.idx.toNat ∧ a x.idx.toNat ≠ i + 1
      · rw [if_pos hb]
        exact .inl ⟨rfl, x.idx.toNat, by rw [e]; simp, hb.1, hb.2⟩
      · rw [if_neg hb]
        rcases mark_spec i hi l (upd a x.idx.toNat (i + 1)) (fun y hy => hx y (by simp [hy])) with ⟨h1, c, h2, h3, h4⟩ | ⟨a', h1, h2, h3⟩
        · left
          refine ⟨h1, c, by rw [e, h2]; simp, ?_, ?_⟩
          · unfold upd at h3 h4
            by_cases hc : c = x.idx.toNat
            · rw [if_pos hc] at h4; exact absurd rfl h4
            · rw [if_neg hc] at h3; exact h3
          · unfold upd at h4
            by_cases hc : c = x.idx.toNat
            · rw [if_pos hc] at h4; exact absurd rfl h4
            · rw [if_neg hc] at h4; exact h4
        · right
          refine ⟨a', h1, fun c hc => ?_, fun c => ?_⟩
          · by_cases hcx : c = x.idx.toNat
            · subst hcx; omega
            · rw [e] at hc
              have : usesM l c = true := by
                rw [Bool.or_eq_true] at hc
                rcases hc with hc | hc
                · have : x.idx.toNat = c := by simpa using hc
                  omega
                · exact hc
              have := h2 c this
              unfold upd at this
              rw [if_neg hcx] at this
              exact this
          · rw [h3 c, e]
            unfold upd
            by_cases hcx : c = x.idx.toNat
            · subst hcx; simp
            · have : decide (x.idx.toNat = c) = false := decide_eq_false (by omega)
              rw [this, Bool.false_or, if_neg hcx]
theorem usedBy_cons (r : List Stp) (rs : List (List Stp)) (c : Nat) : usedBy (r :: rs) c = usedBy rs c + if usesM r c = true then 1 else 0 := by
  unfold usedBy
  rw [List.countP_cons]
theorem marks_spec : ∀ (ll : List (List Stp)) (i : Int) (a : Nat → Int), 0 ≤ i → (∀ r ∈ ll, ∀ x ∈ r, 0 ≤ x.idx) → (∀ c, 0 ≤ a c ∧ a c ≤ i) →
    (marks a i ll = true ↔ ∀ c : Nat, (0 < a c → usedBy ll c = 0) ∧ usedBy ll c ≤ 1)
  | [], i, a, _, _, _ => by simp [marks, usedBy]
  | r :: rs, i, a, hi, hx, ha => by
    rw [marks]
    rcases mark_spec i hi r a (hx r (by simp)) with ⟨h1, c, h2, h3, h4⟩ | ⟨a', h1, h2, h3⟩
    · rw [h1]
      refine ⟨fun h => (by cases h), fun h => ?_⟩
      have := (h c).1 h3
      rw [usedBy_cons, h2] at this
      simp at this
    · rw [h1]
      simp only
      have ha' : ∀ c, 0 ≤ a' c ∧ a' c ≤ i + 1 := fun c => by
        rw [h3 c]
        have := ha c
        split <;> omega
      rw [marks_spec rs (i + 1) a' (by omega) (fun r' hr' => hx r' (by simp [hr'])) ha']
      have hc : ∀ c : Nat, ((0 < a' c → usedBy rs c = 0) ∧ usedBy rs c ≤ 1) ↔ ((0 < a c → usedBy (r :: rs) c = 0) ∧ usedBy (r :: rs) c ≤ 1) := fun c => by
        rw [h3 c, usedBy_cons]
        have := ha c
        by_cases hu : usesM r c = true
        · have := h2 c hu
          rw [if_pos hu, if_pos hu]
          omega
        · rw [if_neg hu, if_neg hu]
          omega
      exact ⟨fun h c => (hc c).1 (h c), fun h c => (hc c).2 (h c)⟩
theorem rings_eq (h : Hall) (ll : List (List Stp)) : ringsErr h ll = ringsErrR h ll := by
  unfold ringsErr ringsErrR
  by_cases hc : chk h = 0
  · rw [if_neg (show ¬ (chk h ≠ 0) from fun hh => hh hc), if_neg (show ¬ (chk h ≠ 0) from fun hh => hh hc)]
    by_cases h6 : 20 < ll.length ∨ ll.any (fun r => decide (200 < r.length)) = true
    · rw [if_pos h6, if_pos h6]
    · rw [if_neg h6, if_neg h6]
      cases h3 : ll.any (fun r => r.any (oddS h)) with
      | true => simp only [if_true]
      | false =>
        simp only [Bool.false_eq_true, if_false]
        cases h16 : ll.any (fun r => !isRingM h r) with
        | true => simp only [if_true]
        | false =>
          simp only [Bool.false_eq_true, if_false]
          have hok : ∀ r ∈ ll, ∀ x ∈ r, okStp h x = true := fun r hr x hx => by
            have := List.any_eq_false.1 h3 r hr
            have := List.any_eq_false.1 (by simpa using this) x hx
            unfold oddS at this
            simpa using this
          have hidx : ∀ r ∈ ll, ∀ x ∈ r, 0 ≤ x.idx := fun r hr x hx => by
            have := hok r hr x hx
            unfold okStp at this
            split at this <;> simp at this <;> omega
          have key := marks_spec ll 0 (fun _ => 0) (by omega) hidx (fun c => by omega)
          have hbig : ∀ c : Nat, h.cs.length ≤ c → usedBy ll c = 0 := fun c hcl => by
            unfold usedBy
            rw [List.countP_eq_zero]
            intro r hr hu
            unfold usesM at hu
            obtain ⟨x, hx1, hx2⟩ := List.any_eq_true.1 hu
            have := hok r hr x hx1
            unfold okStp at this
            simp only [Bool.and_eq_true, Bool.not_eq_true', beq_iff_eq] at hx2
            rw [hx2.1] at this
            simp at this
            omega
          cases hm : marks (fun _ => 0) 0 ll with
          | true =>
            simp only [if_true]
            rw [if_neg]
            rw [List.any_eq_true]
            rintro ⟨c, _, hcc⟩
            have := (key.1 hm c).2
            simp at hcc
            omega
          | false =>
            simp only [Bool.false_eq_true, if_false]
            rw [if_pos]
            rw [List.any_eq_true]
            cases hx : (List.range h.cs.length).any (fun c => decide (1 < usedBy ll c)) with
            | true => exact List.any_eq_true.1 hx
            | false =>
              exfalso
              have : marks (fun _ => 0) 0 ll = true := key.2 fun c => by
                refine ⟨fun h0 => by omega, ?_⟩
                by_cases hcl : c < h.cs.length
                · have := List.any_eq_false.1 hx c (List.mem_range.2 hcl)
                  simp at this
                  omega
                · have := hbig c (by omega)
                  omega
              rw [hm] at this; cases this
  · rw [if_pos hc, if_pos hc]
end Go.Proofs.Ytgcldgchhdjnhaa
