/-
  Plain: the cheapest steps are steps; what the in-place rounds of least keep (ghosts: in which round, and when, a place was bettered last); going back; potentials.
  Plain: going back over the steps that bettered places last: to the start, or into a ring of negative sum; least finds the least sums, or there is a ring.
  Plain: what least finds: the least sums, or a ring; and that the reference's rounds find the same.
  Plain: halls without some counters; the increasing lists of so many numbers, as the program makes them.
  Plain: counters agree just if there are numbers of places that no step betters; there always are fewest counters that can be wrong.
  Plain: what the program computes is what the reference computes: Span, Truth's error, Way's error.
-/
import Derived.Test.YtgcldgchhdjnhaaPlain
namespace Go.Proofs.Ytgcldgchhdjnhaa

theorem fold_some {h : Hall} {k : Int × Int} : ∀ (xs : List Stp) (f : Int × Int → Option (Stp × Int)) (a : Stp × Int), f k = some a →
    ∃ b, xs.foldl (relax h) f k = some b ∧ b.2 ≤ a.2 ∧ (∀ x ∈ xs, k = (src h x, dst h x) → b.2 ≤ cost h x) ∧ (b = a ∨ ∃ x ∈ xs, k = (src h x, dst h x) ∧ b = (x, cost h x))
  | [], f, a, e => ⟨a, e, Int.le_refl _, by simp, .inl rfl⟩
  | x :: xs, f, a, e => by
    rw [List.foldl_cons]
    by_cases hc : k = (src h x, dst h x) ∧ cost h x < a.2
    · have e2 : relax h f x k = some (x, cost h x) := by unfold relax; rw [e]; simp only; rw [if_pos hc]
      obtain ⟨b, h1, h2, h3, h4⟩ := fold_some xs _ _ e2
      refine ⟨b, h1, by have := h2; simp at this; omega, fun y hy hk => ?_, ?_⟩
      · rcases List.mem_cons.1 hy with rfl | hy
        · exact h2
        · exact h3 y hy hk
      · right
        rcases h4 with rfl | ⟨y, hy, hk, rfl⟩
        · exact ⟨x, by simp, hc.1, rfl⟩
        · exact ⟨y, by simp [hy], hk, rfl⟩
    · have e2 : relax h f x k = some a := by unfold relax; rw [e]; simp only; rw [if_neg hc]
      obtain ⟨b, h1, h2, h3, h4⟩ := fold_some xs _ _ e2
      refine ⟨b, h1, h2, fun y hy hk => ?_, ?_⟩
      · rcases List.mem_cons.1 hy with rfl | hy
        · have : ¬ cost h y < a.2 := fun hh => hc ⟨hk, hh⟩
          omega
        · exact h3 y hy hk
      · rcases h4 with rfl | ⟨y, hy, hk, rfl⟩
        · exact .inl rfl
        · exact .inr ⟨y, by simp [hy], hk, rfl⟩
theorem arcs_some {h : Hall} (v : Valid h) {k : Int × Int} {a : Stp × Int} (e : arcs h k = some a) : okStp h a.1 = true ∧ src h a.1 = k.1 ∧ dst h a.1 = k.2 ∧ cost h a.1 = a.2 := by
  unfold arcs at e
  cases hi : initA h k with
  | none =>
    have key : ∀ (xs : List Stp) (f : Int × Int → Option (Stp × Int)), f k = none → xs.foldl (relax h) f k = none := by
      intro xs
      induction xs with
      | nil => exact fun f hf => hf
      | cons x xs ih => exact fun f hf => ih _ (by unfold relax; rw [hf])
    unfold arcsUp at e
    rw [key _ _ hi] at e
    cases e
  | some a0 =>
    have ha0 : a0.2 = nowh := by unfold initA at hi; split at hi; cases hi; rfl; cases hi
    obtain ⟨b, h1, h2, h3, h4⟩ := fold_some (h := h) (stps h) _ _ hi
    unfold arcsUp at e
    rw [h1] at e
    simp only at e
    split at e
    · cases e
    · cases e
      rcases h4 with rfl | ⟨x, hx, hk, rfl⟩
      · exact absurd ha0 ‹_›
      · subst hk
        exact ⟨stps_ok v x hx, rfl, rfl, rfl⟩
theorem arcs_le {h : Hall} (v : Valid h) {x : Stp} (o : okStp h x = true) : ∃ a, arcs h (src h x, dst h x) = some a ∧ a.2 ≤ cost h x := by
  have hin := src_in v o
  have hi : initA h (src h x, dst h x) = some (⟨false, 0, false⟩, nowh) := by unfold initA; rw [if_pos hin]
  obtain ⟨b, h1, h2, h3, h4⟩ := fold_some (h := h) (stps h) _ _ hi
  have hb := h3 x (mem_stps v o) rfl
  have hc := cost_bd v o
  refine ⟨b, ?_, hb⟩
  unfold arcs arcsUp
  rw [h1]
  simp only
  rw [if_neg (by unfold nowh; omega)]
theorem src_ne_dst {h : Hall} (v : Valid h) {x : Stp} (o : okStp h x = true) : src h x ≠ dst h x := by
  have := stpC_ok v o
  unfold src dst
  split <;> omega

structure Inv (h : Hall) (st k : Nat) (s0 s : WSt) (r t : Nat → Nat) (now : Nat) (D : Nat → Nat → Prop) : Prop where
  rk : ∀ q, r q ≤ k
  zero : ∀ q, r q = 0 → s.sums q = (lini st).sums q
  befz : ∀ q, r q = 0 → s.before q = 0
  le : ∀ q, s.sums q ≤ nowh
  fin : ∀ q, 1 ≤ r q → s.sums q < nowh
  bet : ∀ q, 1 ≤ r q → ∃ p : Nat, s.before q = p ∧ okStp h (s.by_ q) = true ∧ src h (s.by_ q) = p ∧ dst h (s.by_ q) = q ∧ s.sums p ≠ nowh ∧ s.sums p + cost h (s.by_ q) ≤ s.sums q ∧
    (t q < t p → s.sums p + cost h (s.by_ q) < s.sums q) ∧ t p ≠ t q ∧ r q ≤ r p + 1 ∧ (r p = 0 → p = st)
  tn : ∀ q, t q ≤ now
  dn : ∀ q, s.sums q ≤ s0.sums q
  dk : ∀ q, r q = k → s.sums q < s0.sums q
  lst : (∀ q, s.sums q = s0.sums q) ∨ ∃ q : Nat, s.ringed = q ∧ r q = k
  rel : ∀ (p q : Nat) a, arcs h ((p : Int), (q : Int)) = some a → s.sums p = nowh ∨ s.sums q ≤ s.sums p + a.2 ∨ k ≤ r p ∨ (¬ D p q ∧ k ≤ r p + 1)
theorem upd_on {α : Type} (f : Nat → α) (i : Nat) (v : α) : upd f i v i = v := by simp [upd]
theorem upd_off {α : Type} (f : Nat → α) {i j : Nat} (v : α) (h : j ≠ i) : upd f i v j = f j := by simp [upd, h]
theorem Inv.step {h : Hall} (v : Valid h) {st k : Nat} (hk : 1 ≤ k) {s0 s : WSt} {r t : Nat → Nat} {now : Nat} {D : Nat → Nat → Prop} (I : Inv h st k s0 s r t now D) (p q : Nat) (D' : Nat → Nat → Prop) (hD : ∀ i j, D' i j → D i j ∨ (i = p ∧ j = q)) :
    ∃ r' t' now', Inv h st k s0 (lstep (arcs h) s p q) r' t' now' D' := by
  cases ha : arcs h ((p : Int), (q : Int)) with
  | none =>
    have e : lstep (arcs h) s p q = s := by unfold lstep; rw [ha]
    rw [e]
    refine ⟨r, t, now, { I with rel := fun i j a hij => ?_ }⟩
    rcases I.rel i j a hij with h1 | h1 | h1 | ⟨h1, h2⟩
    · exact .inl h1
    · exact .inr (.inl h1)
    · exact .inr (.inr (.inl h1))
    · refine .inr (.inr (.inr ⟨fun hd => ?_, h2⟩))
      rcases hD i j hd with hd | ⟨rfl, rfl⟩
      · exact h1 hd
      · rw [ha] at hij; cases hij
  | some a =>
    by_cases hc : s.sums p = nowh ∨ s.sums q ≤ s.sums p + a.2
    · have e : lstep (arcs h) s p q = s := by unfold lstep; rw [ha]; simp only; rw [if_pos hc]
      rw [e]
      refine ⟨r, t, now, { I with rel := fun i j b hij => ?_ }⟩
      rcases I.rel i j b hij with h1 | h1 | h1 | ⟨h1, h2⟩
      · exact .inl h1
      · exact .inr (.inl h1)
      · exact .inr (.inr (.inl h1))
      · by_cases hd : D' i j
        · rcases hD i j hd with hd | ⟨rfl, rfl⟩
          · exact absurd hd h1
          · rw [ha] at hij; cases hij
            rcases hc with hc | hc
            · exact .inl hc
            · exact .inr (.inl hc)
        · exact .inr (.inr (.inr ⟨hd, h2⟩))
    · have e : lstep (arcs h) s p q = ⟨upd s.sums q (s.sums p + a.2), upd s.before q (p : Int), upd s.by_ q a.1, (q : Int)⟩ := by
        unfold lstep; rw [ha]; simp only; rw [if_neg hc]
      rw [e]
      obtain ⟨hp, hlt⟩ : s.sums p ≠ nowh ∧ s.sums p + a.2 < s.sums q := ⟨fun hh => hc (.inl hh), by have : ¬ s.sums q ≤ s.sums p + a.2 := fun hh => hc (.inr hh); omega⟩
      obtain ⟨a1, a2, a3, a4⟩ := arcs_some v ha
      simp only at a2 a3
      have hpq : p ≠ q := fun hh => src_ne_dst v a1 (by rw [a2, a3, hh])
      have hkp : k ≤ r p + 1 := by
        rcases I.rel p q a ha with h1 | h1 | h1 | ⟨_, h1⟩
        · exact absurd h1 hp
        · omega
        · omega
        · exact h1
      have hleq := I.le q
      refine ⟨upd r q k, upd t q (now + 1), now + 1, ?_⟩
      constructor
      · intro j
        by_cases hj : j = q
        · subst hj; rw [upd_on]; exact Nat.le_refl _
        · rw [upd_off _ _ hj]; exact I.rk j
      · intro j hr
        by_cases hj : j = q
        · subst hj; rw [upd_on] at hr; omega
        · rw [upd_off _ _ hj] at hr
          simp only
          rw [upd_off _ _ hj]; exact I.zero j hr
      · intro j hr
        by_cases hj : j = q
        · subst hj; rw [upd_on] at hr; omega
        · rw [upd_off _ _ hj] at hr
          simp only
          rw [upd_off _ _ hj]; exact I.befz j hr
      · intro j
        simp only
        by_cases hj : j = q
        · subst hj; rw [upd_on]; omega
        · rw [upd_off _ _ hj]; exact I.le j
      · intro j hr
        simp only
        by_cases hj : j = q
        · subst hj; rw [upd_on]; omega
        · rw [upd_off _ _ hj] at hr ⊢; exact I.fin j hr
      · intro j hr
        simp only
        by_cases hj : j = q
        · subst hj
          rw [upd_on, upd_on, upd_on, upd_on, upd_on]
          refine ⟨p, rfl, a1, a2, a3, ?_⟩
          rw [upd_off _ _ hpq, upd_off _ _ hpq, upd_off _ _ hpq]
          refine ⟨hp, by omega, fun hh => ?_, ?_, hkp, fun hr0 => ?_⟩
          · have := I.tn p; omega
          · have := I.tn p; omega
          · have hz := I.zero p hr0
            unfold lini at hz
            simp only at hz
            by_cases hps : p = st
            · exact hps
            · rw [if_neg hps] at hz; exact absurd hz hp
        · rw [upd_off _ _ hj] at hr
          rw [upd_off _ _ hj, upd_off _ _ hj, upd_off _ _ hj, upd_off _ _ hj, upd_off _ _ hj]
          obtain ⟨p', b1, b2, b3, b4, b5, b6, b7, b8, b9, b10⟩ := I.bet j hr
          refine ⟨p', b1, b2, b3, b4, ?_⟩
          by_cases hp' : p' = q
          · subst hp'
            rw [upd_on, upd_on, upd_on]
            have := I.tn j
            have := I.rk j
            exact ⟨by omega, by omega, fun _ => by omega, by omega, by omega, fun hh => by omega⟩
          · rw [upd_off _ _ hp', upd_off _ _ hp', upd_off _ _ hp']
            exact ⟨b5, b6, b7, b8, b9, b10⟩
      · intro j
        by_cases hj : j = q
        · subst hj; rw [upd_on]; exact Nat.le_refl _
        · rw [upd_off _ _ hj]; have := I.tn j; omega
      · intro j
        simp only
        by_cases hj : j = q
        · subst hj; rw [upd_on]; have := I.dn j; omega
        · rw [upd_off _ _ hj]; exact I.dn j
      · intro j hr
        simp only
        by_cases hj : j = q
        · subst hj; rw [upd_on]; have := I.dn j; omega
        · rw [upd_off _ _ hj] at hr ⊢; exact I.dk j hr
      · exact .inr ⟨q, rfl, by rw [upd_on]⟩
      · intro i j b hij
        simp only
        by_cases hi : i = q
        · subst hi; right; right; left; rw [upd_on]; exact Nat.le_refl _
        · rw [upd_off _ _ hi, upd_off _ _ hi]
          by_cases hj : j = q
          · subst hj
            rw [upd_on]
            by_cases hip : i = p
            · subst hip
              rw [ha] at hij; cases hij
              exact .inr (.inl (by omega))
            · rcases I.rel i j b hij with h1 | h1 | h1 | ⟨h1, h2⟩
              · exact .inl h1
              · exact .inr (.inl (by omega))
              · exact .inr (.inr (.inl h1))
              · refine .inr (.inr (.inr ⟨fun hd => ?_, h2⟩))
                rcases hD i j hd with hd | ⟨h3, _⟩
                · exact h1 hd
                · exact hip h3
          · rw [upd_off _ _ hj]
            rcases I.rel i j b hij with h1 | h1 | h1 | ⟨h1, h2⟩
            · exact .inl h1
            · exact .inr (.inl h1)
            · exact .inr (.inr (.inl h1))
            · refine .inr (.inr (.inr ⟨fun hd => ?_, h2⟩))
              rcases hD i j hd with hd | ⟨_, h3⟩
              · exact h1 hd
              · exact hj h3
theorem Inv.wide {h : Hall} {st k : Nat} {s0 s : WSt} {r t : Nat → Nat} {now : Nat} {D D' : Nat → Nat → Prop} (I : Inv h st k s0 s r t now D) (hD : ∀ i j, D' i j → D i j) : Inv h st k s0 s r t now D' :=
  { I with rel := fun i j a hij => (I.rel i j a hij).imp id (Or.imp id (Or.imp id fun ⟨h1, h2⟩ => ⟨fun hd => h1 (hD i j hd), h2⟩)) }
theorem Inv.rowQ {h : Hall} (v : Valid h) {st k : Nat} (hk : 1 ≤ k) {s0 s : WSt} {r t : Nat → Nat} {now : Nat} {p : Nat} {D : Nat → Nat → Prop} (I : Inv h st k s0 s r t now D) :
    ∀ q, ∃ r' t' now', Inv h st k s0 (stQ (arcs h) p s q) r' t' now' (fun i j => D i j ∨ (i = p ∧ j < q))
  | 0 => ⟨r, t, now, I.wide fun i j hd => by rcases hd with hd | ⟨_, hd⟩; exact hd; omega⟩
  | q + 1 => by
    obtain ⟨r', t', now', I'⟩ := Inv.rowQ v hk (p := p) I q
    exact I'.step v hk p q _ fun i j hd => by
      rcases hd with hd | ⟨h1, h2⟩
      · exact .inl (.inl hd)
      · by_cases hj : j = q
        · exact .inr ⟨h1, hj⟩
        · exact .inl (.inr ⟨h1, by omega⟩)
theorem Inv.rowP {h : Hall} (v : Valid h) {st k N : Nat} (hk : 1 ≤ k) {s0 s : WSt} {r t : Nat → Nat} {now : Nat} (I : Inv h st k s0 s r t now (fun _ _ => False)) :
    ∀ p, ∃ r' t' now', Inv h st k s0 (stP (arcs h) N s p) r' t' now' (fun i j => i < p ∧ j < N)
  | 0 => ⟨r, t, now, I.wide fun i j hd => by omega⟩
  | p + 1 => by
    obtain ⟨r', t', now', I'⟩ := Inv.rowP v hk (N := N) I p
    obtain ⟨r2, t2, now2, I2⟩ := I'.rowQ v hk (p := p) N
    exact ⟨r2, t2, now2, I2.wide fun i j hd => by
      by_cases hi : i = p
      · exact .inr ⟨hi, hd.2⟩
      · exact .inl ⟨by omega, hd.2⟩⟩
/-- no step betters anything -/
def Fix (h : Hall) (s : WSt) : Prop := ∀ (p q : Nat) a, arcs h ((p : Int), (q : Int)) = some a → s.sums p = nowh ∨ s.sums q ≤ s.sums p + a.2
theorem Inv.next {h : Hall} {st k : Nat} {s0 s : WSt} {r t : Nat → Nat} {now : Nat} {D : Nat → Nat → Prop} (I : Inv h st k s0 s r t now D) (hD : ∀ (p q : Nat) a, arcs h ((p : Int), (q : Int)) = some a → D p q) :
    Inv h st (k + 1) s s r t now (fun _ _ => False) :=
  { I with
    rk := fun q => by have := I.rk q; omega
    dn := fun q => Int.le_refl _
    dk := fun q hq => by have := I.rk q; omega
    lst := .inl fun _ => rfl
    rel := fun p q a ha => by
      rcases I.rel p q a ha with h1 | h1 | h1 | ⟨h1, _⟩
      · exact .inl h1
      · exact .inr (.inl h1)
      · exact .inr (.inr (.inr ⟨fun h => h, by omega⟩))
      · exact absurd (hD p q a ha) h1 }
theorem inv_lini (h : Hall) (st : Nat) : Inv h st 1 (lini st) (lini st) (fun _ => 0) (fun _ => 0) 0 (fun _ _ => False) where
  rk _ := by omega
  zero _ _ := rfl
  befz _ _ := rfl
  le q := by unfold lini nowh; simp only; split <;> omega
  fin q hq := by omega
  bet q hq := by omega
  tn _ := by omega
  dn _ := Int.le_refl _
  dk q hq := by omega
  lst := .inl fun _ => rfl
  rel p q a ha := .inr (.inr (.inr ⟨fun h => h, by omega⟩))
theorem arc_in {h : Hall} (v : Valid h) {p q : Nat} {a : Stp × Int} (e : arcs h ((p : Int), (q : Int)) = some a) : (p : Int) ≤ h.n ∧ (q : Int) ≤ h.n := by
  obtain ⟨a1, a2, a3, _⟩ := arcs_some v e
  have := src_in v a1
  simp only at a2 a3
  omega
theorem lrun_inv {h : Hall} (v : Valid h) {st : Nat} : ∀ (j k : Nat) (s : WSt) (r t : Nat → Nat) (now : Nat), 1 ≤ k → Inv h st k s s r t now (fun _ _ => False) → (∃ q : Nat, s.ringed = q ∧ r q + 1 = k) →
    ∃ k' r' t' now', Inv h st k' (lrun (arcs h) (h.n.toNat + 1) j s).1 (lrun (arcs h) (h.n.toNat + 1) j s).1 r' t' now' (fun _ _ => False) ∧
      ((lrun (arcs h) (h.n.toNat + 1) j s).2 = true → Fix h (lrun (arcs h) (h.n.toNat + 1) j s).1) ∧ ((lrun (arcs h) (h.n.toNat + 1) j s).2 = false → ∃ q : Nat, (lrun (arcs h) (h.n.toNat + 1) j s).1.ringed = q ∧ r' q + 1 = k + j)
  | 0, k, s, r, t, now, hk, I, hq => ⟨k, r, t, now, I, fun e => by simp [lrun] at e, fun _ => hq⟩
  | j + 1, k, s, r, t, now, hk, I, hq => by
    have n1 := v.n1
    have n10 := v.n10
    obtain ⟨r1, t1, now1, I1⟩ := I.rowP v hk (N := h.n.toNat + 1) (h.n.toNat + 1)
    have hD : ∀ (p q : Nat) a, arcs h ((p : Int), (q : Int)) = some a → p < h.n.toNat + 1 ∧ q < h.n.toNat + 1 := fun p q a ha => by
      have := arc_in v ha; omega
    unfold lrun
    cases hs : same11 s (stP (arcs h) (h.n.toNat + 1) s (h.n.toNat + 1)) with
    | true =>
      simp only [if_true]
      refine ⟨k + 1, r1, t1, now1, I1.next hD, fun _ => ?_, fun e => by cases e⟩
      have heq : ∀ i, i < 11 → s.sums i = (stP (arcs h) (h.n.toNat + 1) s (h.n.toNat + 1)).sums i := fun i hi => by
        have := List.all_eq_true.1 hs i (List.mem_range.2 hi)
        simpa using this
      intro p q a ha
      have hin := arc_in v ha
      rcases I1.rel p q a ha with h1 | h1 | h1 | ⟨h1, _⟩
      · exact .inl h1
      · exact .inr h1
      · exfalso
        have := I1.rk p
        have := I1.dk p (by omega)
        have := heq p (by omega)
        omega
      · exact absurd (hD p q a ha) h1
    | false =>
      simp only [Bool.false_eq_true, if_false]
      have hne : ¬ ∀ q, (stP (arcs h) (h.n.toNat + 1) s (h.n.toNat + 1)).sums q = s.sums q := fun hh => by
        have : same11 s (stP (arcs h) (h.n.toNat + 1) s (h.n.toNat + 1)) = true := by
          unfold same11
          rw [List.all_eq_true]
          intro i _
          simp [hh i]
        rw [this] at hs; cases hs
      have hl : ∃ q : Nat, (stP (arcs h) (h.n.toNat + 1) s (h.n.toNat + 1)).ringed = q ∧ r1 q + 1 = k + 1 := by
        rcases I1.lst with h1 | ⟨q, h1, h2⟩
        · exact absurd h1 hne
        · exact ⟨q, h1, by omega⟩
      obtain ⟨k', r', t', now', I', hf, hr⟩ := lrun_inv v j (k + 1) _ r1 t1 now1 (by omega) (I1.next hD) hl
      exact ⟨k', r', t', now', I', hf, fun e => by
        obtain ⟨q, h1, h2⟩ := hr e
        exact ⟨q, h1, by omega⟩⟩
end Go.Proofs.Ytgcldgchhdjnhaa
namespace Go.Proofs.Ytgcldgchhdjnhaa

theorem pigeon : ∀ (M : Nat) (f : Nat → Nat), (∀ i, i ≤ M → f i < M) → ∃ i j, i < j ∧ j ≤ M ∧ f i = f j
  | 0, f, h => by have := h 0 (Nat.le_refl _); omega
  | M + 1, f, h => by
    by_cases hex : ∃ i, i ≤ M ∧ f i = f (M + 1)
    · obtain ⟨i, hi, e⟩ := hex
      exact ⟨i, M + 1, by omega, Nat.le_refl _, e⟩
    · have hne : ∀ i, i ≤ M → f i ≠ f (M + 1) := fun i hi e => hex ⟨i, hi, e⟩
      have hc := h (M + 1) (Nat.le_refl _)
      obtain ⟨i, j, h1, h2, h3⟩ := pigeon M (fun i => if f i = M then f (M + 1) else f i) fun i hi => by
        have h1 := h i (by omega)
        have h2 := hne i hi
        show (if f i = M then f (M + 1) else f i) < M
        split <;> omega
      refine ⟨i, j, h1, by omega, ?_⟩
      have ni := hne i (by omega)
      have nj := hne j h2
      by_cases a : f i = M
      · by_cases b : f j = M
        · omega
        · rw [if_pos a, if_neg b] at h3; omega
      · by_cases b : f j = M
        · rw [if_neg a, if_pos b] at h3; omega
        · rw [if_neg a, if_neg b] at h3; exact h3
theorem itB_add (s : WSt) : ∀ k m a, itB s m (itB s k a) = itB s (k + m) a
  | 0, m, a => by rw [itB, Nat.zero_add]
  | k + 1, m, a => by rw [itB, itB_add s k, Nat.add_right_comm]; rfl

/-- the least number that does -/
theorem leastN {p : Nat → Prop} (h : ∃ n, p n) : ∃ n, p n ∧ ∀ m, m < n → ¬ p m := by
  obtain ⟨n, hn⟩ := h
  induction n using Nat.strongRecOn with
  | _ n ih =>
    by_cases hex : ∃ m, m < n ∧ p m
    · obtain ⟨m, h1, h2⟩ := hex
      exact ih m h1 h2
    · exact ⟨n, hn, fun m hm hp => hex ⟨m, hm, hp⟩⟩

theorem fol_append (h : Hall) : ∀ (l l' : List Stp) (s f : Int), fol h s f (l ++ l') = if (fol h s f l).2.2 = true then fol h (fol h s f l).1 (fol h s f l).2.1 l' else (0, 0, false)
  | [], l', s, f => by simp [fol]
  | x :: l, l', s, f => by
    rw [List.cons_append, fol, fol]
    by_cases hs : src h x = f
    · rw [if_pos hs, if_pos hs, fol_append h l]
    · rw [if_neg hs, if_neg hs]; simp
theorem fol_shift (h : Hall) : ∀ (l : List Stp) (s f : Int), (fol h s f l).2.2 = true → fol h s f l = (s + (l.map (cost h)).sum, (fol h s f l).2.1, true)
  | [], s, f, _ => by simp [fol]
  | x :: l, s, f, e => by
    unfold fol at e ⊢
    by_cases hs : src h x = f
    · rw [if_pos hs] at e ⊢
      rw [fol_shift h l _ _ e]
      simp only [List.map_cons, List.sum_cons, Prod.mk.injEq, and_true]
      omega
    · rw [if_neg hs] at e; simp at e
/-- a way: from where, over which steps, to where -/
def IsW (h : Hall) (f : Int) (l : List Stp) (t : Int) : Prop := (∀ x ∈ l, okStp h x = true) ∧ ∀ s, fol h s f l = (s + (l.map (cost h)).sum, t, true)
theorem IsW.nil (h : Hall) (f : Int) : IsW h f [] f := ⟨by simp, fun s => by simp [fol]⟩
theorem IsW.snoc {h : Hall} {f t : Int} {l : List Stp} (a : IsW h f l t) {x : Stp} (o : okStp h x = true) (hs : src h x = t) : IsW h f (l ++ [x]) (dst h x) := by
  refine ⟨fun y hy => ?_, fun s => ?_⟩
  · rcases List.mem_append.1 hy with hy | hy
    · exact a.1 y hy
    · simp at hy; rw [hy]; exact o
  · rw [fol_append, a.2 s]
    simp only [if_true, fol, hs]
    simp only [List.map_append, List.sum_append, List.map_cons, List.map_nil, List.sum_cons, List.sum_nil, Prod.mk.injEq, and_true]
    omega
theorem IsW.cons {h : Hall} {t : Int} {l : List Stp} {x : Stp} (o : okStp h x = true) (a : IsW h (dst h x) l t) : IsW h (src h x) (x :: l) t := by
  refine ⟨fun y hy => ?_, fun s => ?_⟩
  · rcases List.mem_cons.1 hy with rfl | hy
    · exact o
    · exact a.1 y hy
  · rw [fol, if_pos rfl, a.2]
    simp only [List.map_cons, List.sum_cons, Prod.mk.injEq, and_true]
    omega
theorem IsW.append {h : Hall} {f t u : Int} {l l' : List Stp} (a : IsW h f l t) (b : IsW h t l' u) : IsW h f (l ++ l') u := by
  refine ⟨fun y hy => ?_, fun s => ?_⟩
  · rcases List.mem_append.1 hy with hy | hy
    · exact a.1 y hy
    · exact b.1 y hy
  · rw [fol_append, a.2 s]
    simp only [if_true, b.2]
    simp only [List.map_append, List.sum_append, Prod.mk.injEq, and_true]
    omega
theorem isW_of_fol {h : Hall} {l : List Stp} (ok : ∀ x ∈ l, okStp h x = true) {s f : Int} (e : (fol h s f l).2.2 = true) : IsW h f l (fol h s f l).2.1 := by
  refine ⟨ok, ?_⟩
  clear ok
  induction l generalizing s f with
  | nil => intro s'; simp [fol]
  | cons x l ih =>
    intro s'
    unfold fol at e ⊢
    by_cases hs : src h x = f
    · rw [if_pos hs] at e ⊢
      rw [if_pos hs, ih e]
      simp only [List.map_cons, List.sum_cons, Prod.mk.injEq, and_true]
      omega
    · rw [if_neg hs] at e; simp at e
theorem isRingM_of {h : Hall} {l : List Stp} {f : Int} (a : IsW h f l f) (hn : (l.map (cost h)).sum < 0) : isRingM h l = true := by
  cases l with
  | nil => simp at hn
  | cons x l =>
    have e := a.2 0
    have hs : src h x = f := by
      rw [fol] at e
      by_cases hs : src h x = f
      · exact hs
      · rw [if_neg hs] at e; simp at e
    unfold isRingM
    simp only
    rw [hs, e]
    simpa using hn
theorem isW_of_ring {h : Hall} {l : List Stp} (ok : ∀ x ∈ l, okStp h x = true) (e : isRingM h l = true) : ∃ f, IsW h f l f ∧ (l.map (cost h)).sum < 0 ∧ 0 < l.length := by
  cases l with
  | nil => simp [isRingM] at e
  | cons x l =>
    unfold isRingM at e
    simp only [Bool.and_eq_true, decide_eq_true_eq] at e
    obtain ⟨⟨e1, e2⟩, e3⟩ := e
    have a := isW_of_fol ok e1
    have e4 := a.2 0
    rw [e2] at a
    refine ⟨_, a, ?_, by simp⟩
    rw [e4] at e3
    simpa using e3

/-- numbers of places that no step betters -/
def Pot (h : Hall) (d : Nat → Int) : Prop := ∀ x, okStp h x = true → d (dst h x).toNat ≤ d (src h x).toNat + cost h x
theorem Pot.way {h : Hall} {d : Nat → Int} (p : Pot h d) : ∀ {l : List Stp} {f t : Int}, IsW h f l t → d t.toNat ≤ d f.toNat + (l.map (cost h)).sum
  | [], f, t, a => by
    have := a.2 0
    simp [fol] at this
    rw [this]; simp
  | x :: l, f, t, a => by
    have e := a.2 0
    rw [fol] at e
    by_cases hs : src h x = f
    · have a' : IsW h (dst h x) l t := by
        rw [if_pos hs] at e
        have e1 : (fol h (0 + cost h x) (dst h x) l).2.2 = true := by rw [e]
        have := isW_of_fol (fun y hy => a.1 y (by simp [hy])) e1
        rwa [e] at this
      have h1 := p.way a'
      have h2 := p x (a.1 x (by simp))
      rw [hs] at h2
      simp only [List.map_cons, List.sum_cons]
      omega
    · rw [if_neg hs] at e; simp at e
theorem Pot.noRing {h : Hall} {d : Nat → Int} (p : Pot h d) {l : List Stp} (ok : ∀ x ∈ l, okStp h x = true) : isRingM h l = false := by
  cases e : isRingM h l with
  | false => rfl
  | true =>
    obtain ⟨f, a, hn, _⟩ := isW_of_ring ok e
    have := p.way a
    omega

section
variable {h : Hall} (v : Valid h) {st k : Nat} {s0 s : WSt} {r t : Nat → Nat} {now : Nat} {D : Nat → Nat → Prop} (I : Inv h st k s0 s r t now D)
include v I
theorem Inv.place {q : Nat} (hq : 1 ≤ r q) : (q : Int) ≤ h.n := by
  obtain ⟨p, _, b2, _, b4, _⟩ := I.bet q hq
  have := src_in v b2
  omega
theorem Inv.befIn : BefIn s := fun i hi => by
  have n10 := v.n10
  by_cases hr : 1 ≤ r i
  · obtain ⟨p, b1, b2, b3, _⟩ := I.bet i hr
    have := src_in v b2
    omega
  · have := I.befz i (by omega)
    omega
theorem Inv.itB_place (hst : (st : Int) ≤ h.n) {q : Nat} (hq : 1 ≤ r q) : (((s.before q).toNat : Nat) : Int) ≤ h.n := by
  obtain ⟨p, b1, b2, b3, _⟩ := I.bet q hq
  have := src_in v b2
  omega
/-- the steps back, from a place to another one, that lies first on the way -/
theorem Inv.back {a : Nat} : ∀ (K c : Nat), (∀ m, m < K → 1 ≤ r (itB s m c) ∧ itB s m c ≠ a) → itB s K c = a →
    Chain s a K c ∧ IsW h a (backs s K c).reverse c ∧ ((backs s K c).map (cost h)).sum + s.sums a ≤ s.sums c ∧ (((backs s K c).map (cost h)).sum + s.sums a < s.sums c ∨ t a ≤ t c)
  | 0, c, _, e => by
    have e' : c = a := e
    subst e'
    exact ⟨rfl, IsW.nil _ _, by simp [backs], .inr (Nat.le_refl _)⟩
  | K + 1, c, hb, e => by
    obtain ⟨hc, hne⟩ := hb 0 (by omega)
    have hc : 1 ≤ r c := hc
    have hne : c ≠ a := hne
    have n10 := v.n10
    have hpl := I.place v hc
    obtain ⟨p, b1, b2, b3, b4, b5, b6, b7, b8, b9, b10⟩ := I.bet c hc
    have hin := src_in v b2
    have hp : (s.before c).toNat = p := by omega
    obtain ⟨i1, i2, i3, i4⟩ := Inv.back K p (fun m hm => by have := hb (m + 1) (by omega); rwa [itB, hp] at this) (by rwa [itB, hp] at e)
    refine ⟨⟨hne, by omega, by omega, by omega, by rw [hp]; exact i1⟩, ?_, ?_, ?_⟩
    · rw [backs, hp, List.reverse_cons]
      have := i2.snoc b2 b3
      rwa [b4] at this
    · rw [backs, hp]
      simp only [List.map_cons, List.sum_cons]
      omega
    · rw [backs, hp]
      simp only [List.map_cons, List.sum_cons]
      rcases i4 with i4 | i4
      · left; omega
      · by_cases ht : t c < t p
        · left; have := b7 ht; omega
        · right; omega
/-- all places back from one were bettered: going back comes into a ring -/
theorem Inv.cycle {q : Nat} (hq : ∀ m, m ≤ h.n.toNat + 1 → 1 ≤ r (itB s m q)) :
    ∃ K, K ≤ 11 ∧ Chain s (itB s 11 q) K (s.before (itB s 11 q)).toNat ∧ IsW h (itB s 11 q) (s.by_ (itB s 11 q) :: backs s K (s.before (itB s 11 q)).toNat).reverse (itB s 11 q) ∧
      ((s.by_ (itB s 11 q) :: backs s K (s.before (itB s 11 q)).toNat).map (cost h)).sum < 0 := by
  have n1 := v.n1
  have n10 := v.n10
  obtain ⟨i, j, hij, hj, e⟩ := pigeon (h.n.toNat + 1) (fun m => itB s m q) fun m hm => by have := I.place v (hq m hm); show itB s m q < _; omega
  have e : itB s i q = itB s j q := e
  have per : ∀ m, i ≤ m → itB s (m + (j - i)) q = itB s m q := fun m hm => by
    have h1 := itB_add s i (m - i) q
    have h2 := itB_add s j (m - i) q
    rw [show i + (m - i) = m by omega] at h1
    rw [show j + (m - i) = m + (j - i) by omega] at h2
    rw [← h1, ← h2, e]
  have all : ∀ m, 1 ≤ r (itB s m q) := by
    intro m
    induction m using Nat.strongRecOn with
    | _ m ih =>
      by_cases hm : m ≤ h.n.toNat + 1
      · exact hq m hm
      · have := per (m - (j - i)) (by omega)
        rw [show m - (j - i) + (j - i) = m by omega] at this
        rw [this]
        exact ih _ (by omega)
  obtain ⟨a, ha⟩ : ∃ a, a = itB s 11 q := ⟨_, rfl⟩
  have alla : ∀ m, 1 ≤ r (itB s m a) := fun m => by rw [ha, itB_add]; exact all _
  have ret : itB s (j - i) a = a := by rw [ha, itB_add]; exact per 11 (by omega)
  rw [← ha]
  obtain ⟨p, b1, b2, b3, b4, b5, b6, b7, b8, b9, b10⟩ := I.bet a (alla 0)
  have hin := src_in v b2
  have hp : (s.before a).toNat = p := by omega
  have h1 : ∃ K, itB s K p = a := ⟨j - i - 1, by
    have : itB s (j - i - 1 + 1) a = a := by rw [show j - i - 1 + 1 = j - i by omega]; exact ret
    rwa [itB, hp] at this⟩
  obtain ⟨K, hK, hmin⟩ := leastN h1
  have hK11 : K ≤ 11 := by
    by_cases hh : K ≤ 11
    · exact hh
    · have : itB s (j - i - 1 + 1) a = a := by rw [show j - i - 1 + 1 = j - i by omega]; exact ret
      rw [itB, hp] at this
      exact absurd this (hmin _ (by omega))
  obtain ⟨c1, c2, c3, c4⟩ := Inv.back v I (a := a) K p (fun m hm => ⟨by have := alla (m + 1); rwa [itB, hp] at this, hmin m hm⟩) hK
  refine ⟨K, hK11, by rw [hp]; exact c1, ?_, ?_⟩
  · rw [hp, List.reverse_cons]
    have := c2.snoc b2 b3
    rwa [b4] at this
  · rw [hp]
    simp only [List.map_cons, List.sum_cons]
    rcases c4 with c4 | c4
    · omega
    · have := b7 (by omega); omega
end
end Go.Proofs.Ytgcldgchhdjnhaa
namespace Go.Proofs.Ytgcldgchhdjnhaa

/-- a number of steps after which a place's least sum is found -/
def Dep (h : Hall) (d : Nat → Int) (st : Nat) : Nat → Nat → Prop
  | 0, to => to = st
  | K + 1, to => ∃ (x : Stp) (p : Nat), okStp h x = true ∧ dst h x = (to : Int) ∧ src h x = (p : Int) ∧ d to = d p + cost h x ∧ Dep h d st K p
/-- the least sums of ways from a place -/
structure Low (h : Hall) (st : Nat) (s : WSt) : Prop where
  pot : Pot h s.sums
  st0 : s.sums st = 0
  lo : ∀ i : Nat, (i : Int) ≤ h.n → s.sums i ≠ nowh
  chain : ∀ to : Nat, (to : Int) ≤ h.n → ∃ K, K ≤ 11 ∧ Chain s st K to ∧ IsW h st (backs s K to).reverse to ∧ ((backs s K to).reverse.map (cost h)).sum = s.sums to
  dep : ∀ to : Nat, (to : Int) ≤ h.n → ∃ K, K ≤ h.n.toNat + 1 ∧ Dep h s.sums st K to

theorem okWin {h : Hall} {i : Nat} (hi : (i : Int) < h.n) (b : Bool) : okStp h ⟨true, i, b⟩ = true := by simp [okStp]; omega
theorem join {h : Hall} (v : Valid h) {d : Nat → Int} {st : Nat} (hst : (st : Int) ≤ h.n) (hb : ∀ i, d i = nowh ∨ d i ≤ 20000000000) (hs : d st ≠ nowh)
    (hf : ∀ x, okStp h x = true → d (src h x).toNat = nowh ∨ d (dst h x).toNat ≤ d (src h x).toNat + cost h x) : ∀ i : Nat, (i : Int) ≤ h.n → d i ≠ nowh := by
  have m0 := v.m0
  have m1 := v.m1
  have up : ∀ j : Nat, ((st + j : Nat) : Int) ≤ h.n → d (st + j) ≠ nowh := by
    intro j
    induction j with
    | zero => exact fun _ => hs
    | succ j ih =>
      intro hj
      have h1 := ih (by omega)
      have h2 := hf ⟨true, ((st + j : Nat) : Int), false⟩ (okWin (by omega) _)
      simp [src, dst, cost, stpC] at h2
      have e1 : (((st : Int) + (j : Int)).toNat) = st + j := by omega
      have e2 : (((st : Int) + (j : Int) + 1).toNat) = st + (j + 1) := by omega
      rw [e1, e2] at h2
      have h3 := hb (st + j)
      have h4 : d (st + (j + 1)) ≤ d (st + j) + h.most := by
        rcases h2 with h2 | h2
        · exact absurd h2 h1
        · exact h2
      unfold nowh at *
      omega
  have down : ∀ j : Nat, j ≤ st → d (st - j) ≠ nowh := by
    intro j
    induction j with
    | zero => exact fun _ => hs
    | succ j ih =>
      intro hj
      have h1 := ih (by omega)
      have h2 := hf ⟨true, ((st - (j + 1) : Nat) : Int), true⟩ (okWin (by omega) _)
      simp [src, dst, cost, stpC] at h2
      have e2 : st - (j + 1) + 1 = st - j := by omega
      rw [e2] at h2
      have h3 := hb (st - j)
      have h4 : d (st - (j + 1)) ≤ d (st - j) := by
        rcases h2 with h2 | h2
        · exact absurd h2 h1
        · exact h2
      unfold nowh at *
      omega
  intro i hi
  by_cases hle : i ≤ st
  · have := down (st - i) (by omega)
    rwa [show st - (st - i) = i by omega] at this
  · have := up (i - st) (by omega)
    rwa [show st + (i - st) = i by omega] at this

theorem leastM_inv {h : Hall} (v : Valid h) (st : Nat) : ∃ k r t now, Inv h st k (leastM h st).1 (leastM h st).1 r t now (fun _ _ => False) ∧
    ((leastM h st).2 = true → Fix h (leastM h st).1) ∧ ((leastM h st).2 = false → ∃ q : Nat, (leastM h st).1.ringed = q ∧ r q = h.n.toNat + 2) := by
  obtain ⟨k, r, t, now, I, h1, h2⟩ := lrun_inv v (h.n.toNat + 2) 1 (lini st) _ _ _ (Nat.le_refl _) (inv_lini h st) ⟨0, rfl, rfl⟩
  refine ⟨k, r, t, now, I, h1, fun e => ?_⟩
  obtain ⟨q, a, b⟩ := h2 e
  exact ⟨q, a, by omega⟩
theorem leastM_low {h : Hall} (v : Valid h) {st : Nat} (hst : (st : Int) ≤ h.n) (e : (leastM h st).2 = true) : Low h st (leastM h st).1 := by
  have n1 := v.n1
  have n10 := v.n10
  obtain ⟨k, r, t, now, I, hF, _⟩ := leastM_inv v st
  have F := hF e
  have hbd : ∀ i, (leastM h st).1.sums i = nowh ∨ (leastM h st).1.sums i ≤ 20000000000 := fun i => by
    have hb := bd_lrun (costB_arcs v) (N := h.n.toNat + 1) (by omega) (h.n.toNat + 2) 0 (lini st) (bd_lini st) (by omega)
    rcases hb i with h1 | h1
    · exact .inl h1
    · right; unfold leastM; omega
  generalize (leastM h st).1 = s at *
  have hfx : ∀ x, okStp h x = true → s.sums (src h x).toNat = nowh ∨ s.sums (dst h x).toNat ≤ s.sums (src h x).toNat + cost h x := fun x o => by
    have hin := src_in v o
    obtain ⟨a, ha, hle⟩ := arcs_le v o
    have := F (src h x).toNat (dst h x).toNat a (by rw [Int.toNat_of_nonneg (by omega), Int.toNat_of_nonneg (by omega)]; exact ha)
    omega
  have hst0 : s.sums st ≠ nowh := by
    by_cases hr : 1 ≤ r st
    · have := I.fin st hr; omega
    · rw [I.zero st (by omega)]
      unfold lini nowh; simp
  have lo := join v hst hbd hst0 hfx
  have pot : Pot h s.sums := fun x o => by
    have hin := src_in v o
    rcases hfx x o with h1 | h1
    · exact absurd h1 (lo _ (by omega))
    · exact h1
  have ex : ∀ to : Nat, (to : Int) ≤ h.n → ∃ K, K ≤ h.n.toNat + 1 ∧ itB s K to = st ∧ (∀ m, m < K → 1 ≤ r (itB s m to)) ∧ r st = 0 := by
    intro to hto
    have h1 : ∃ m, r (itB s m to) = 0 ∧ m ≤ h.n.toNat + 1 := by
      by_cases hex : ∃ m, r (itB s m to) = 0 ∧ m ≤ h.n.toNat + 1
      · exact hex
      · exfalso
        obtain ⟨K, _, _, hw, hn⟩ := Inv.cycle v I (q := to) fun m hm => by
          by_cases hz : r (itB s m to) = 0
          · exact absurd ⟨m, hz, hm⟩ hex
          · omega
        have := pot.way hw
        have e2 : ∀ l : List Stp, (l.reverse.map (cost h)).sum = (l.map (cost h)).sum := fun l => by rw [List.map_reverse, List.sum_reverse]
        rw [e2] at this
        omega
    obtain ⟨K, ⟨hz, hK⟩, hmin⟩ := leastN h1
    have hall : ∀ m, m < K → 1 ≤ r (itB s m to) := fun m hm => by
      by_cases hzz : r (itB s m to) = 0
      · exact absurd ⟨hzz, by omega⟩ (hmin m hm)
      · omega
    have hst : itB s K to = st := by
      cases K with
      | zero =>
        have hz' : r to = 0 := hz
        have h2 := I.zero to hz'
        unfold lini at h2
        simp only at h2
        by_cases hts : to = st
        · exact hts
        · rw [if_neg hts] at h2
          exact absurd h2 (lo to hto)
      | succ K =>
        obtain ⟨p, b1, _, _, _, _, _, _, _, _, b10⟩ := I.bet _ (hall K (by omega))
        rw [itB_succ, b1] at hz ⊢
        exact b10 hz
    exact ⟨K, hK, hst, hall, by rw [← hst]; exact hz⟩
  have rst : r st = 0 := by obtain ⟨_, _, _, _, h0⟩ := ex st hst; exact h0
  have st0 : s.sums st = 0 := by rw [I.zero st rst]; unfold lini; simp
  have hback := fun (to K : Nat) (hK : itB s K to = st) (hall : ∀ m, m < K → 1 ≤ r (itB s m to)) => Inv.back v I (a := st) K to (fun m hm => ⟨hall m hm, fun hh => by have := hall m hm; rw [hh] at this; omega⟩) hK
  have hsum : ∀ l : List Stp, (l.reverse.map (cost h)).sum = (l.map (cost h)).sum := fun l => by rw [List.map_reverse, List.sum_reverse]
  refine ⟨pot, st0, lo, fun to hto => ?_, fun to hto => ?_⟩
  · obtain ⟨K, hK, hi, hall, _⟩ := ex to hto
    obtain ⟨c1, c2, c3, _⟩ := hback to K hi hall
    have := pot.way c2
    rw [hsum] at this
    simp only [Int.toNat_natCast] at this
    exact ⟨K, by omega, c1, c2, by rw [hsum]; omega⟩
  · obtain ⟨K, hK, hi, hall, _⟩ := ex to hto
    refine ⟨K, hK, ?_⟩
    clear hK hto
    induction K generalizing to with
    | zero => exact hi
    | succ K ih =>
      obtain ⟨p, b1, b2, b3, b4, b5, b6, _⟩ := I.bet to (hall 0 (by omega))
      have hp : (s.before to).toNat = p := by omega
      have hpt := pot _ b2
      rw [b3, b4] at hpt
      simp only [Int.toNat_natCast] at hpt
      refine ⟨s.by_ to, p, b2, b4, b3, by omega, ih p (by rwa [itB, hp] at hi) fun m hm => ?_⟩
      have := hall (m + 1) (by omega)
      rwa [itB, hp] at this
theorem chain_uniq {s : WSt} {a : Nat} : ∀ {K K' c : Nat}, Chain s a K c → Chain s a K' c → K = K'
  | 0, 0, _, _, _ => rfl
  | 0, K' + 1, c, h1, h2 => absurd h1 h2.1
  | K + 1, 0, c, h1, h2 => absurd h2 h1.1
  | K + 1, K' + 1, c, h1, h2 => by rw [chain_uniq h1.2.2.2.2 h2.2.2.2.2]
/-- what least finds if there is no least sum -/
theorem leastM_ring {h : Hall} (v : Valid h) {st : Nat} (e : (leastM h st).2 = false) : RingOk (leastM h st).1 ∧
    ∀ K, Chain (leastM h st).1 (ringAt (leastM h st).1) K ((leastM h st).1.before (ringAt (leastM h st).1)).toNat →
      K ≤ 11 ∧ isRingM h (ringBack (leastM h st).1 K).reverse = true ∧ ∀ x ∈ (ringBack (leastM h st).1 K).reverse, okStp h x = true := by
  have n1 := v.n1
  have n10 := v.n10
  obtain ⟨k, r, t, now, I, _, hR⟩ := leastM_inv v st
  obtain ⟨q, hq, hrq⟩ := hR e
  generalize (leastM h st).1 = s at *
  have key : ∀ m, m ≤ h.n.toNat + 2 → h.n.toNat + 2 ≤ r (itB s m q) + m := by
    intro m
    induction m with
    | zero => intro _; show _ ≤ r q + 0; omega
    | succ m ih =>
      intro hm
      have h1 := ih (by omega)
      obtain ⟨p, b1, _, _, _, _, _, _, _, b9, _⟩ := I.bet (itB s m q) (by omega)
      rw [itB_succ, b1]
      simp only [Int.toNat_natCast]
      omega
  obtain ⟨K, hK, hc, hw, hn⟩ := Inv.cycle v I (q := q) fun m hm => by have := key m (by omega); omega
  have hra : ringAt s = itB s 11 q := by unfold ringAt; rw [hq, Int.toNat_natCast]
  have hpl := I.place v (q := q) (by omega)
  rw [hra]
  refine ⟨⟨I.befIn v, by omega, by omega, K, by omega, by rw [hra]; exact hc⟩, fun K' hK' => ?_⟩
  obtain rfl := chain_uniq hc hK'
  refine ⟨hK, ?_, ?_⟩
  · refine isRingM_of (f := itB s 11 q) ?_ ?_
    · unfold ringBack; rw [hra]; exact hw
    · unfold ringBack; rw [hra, List.map_reverse, List.sum_reverse]; exact hn
  · unfold ringBack; rw [hra]; exact hw.1

/- the reference's rounds -/
theorem getD_set (l : List Int) (j i : Nat) (x : Int) : (l.set j x).getD i 0 = if i = j ∧ j < l.length then x else l.getD i 0 := by
  simp only [List.getD_eq_getElem?_getD, List.getElem?_set]
  by_cases h : j = i
  · subst h
    by_cases hl : j < l.length
    · simp [hl]
    · simp [hl]
  · rw [if_neg h, if_neg (by omega)]
theorem jstep_le (h : Hall) (out next : List Int) (x : Stp) (i : Nat) : (jstep h out next x).getD i 0 ≤ next.getD i 0 := by
  unfold jstep
  split
  · rw [getD_set]
    split
    · rename_i hh; rw [hh.1]; omega
    · omega
  · omega
theorem jfold_le (h : Hall) (out : List Int) (i : Nat) : ∀ (l : List Stp) (next : List Int), (l.foldl (jstep h out) next).getD i 0 ≤ next.getD i 0
  | [], _ => Int.le_refl _
  | x :: l, next => by
    rw [List.foldl_cons]
    have := jfold_le h out i l (jstep h out next x)
    have := jstep_le h out next x i
    omega
theorem jfold_hit {h : Hall} {out : List Int} {x : Stp} : ∀ (l : List Stp) (next : List Int), x ∈ l → out.getD (src h x).toNat 0 < nowh → (dst h x).toNat < next.length →
    (l.foldl (jstep h out) next).getD (dst h x).toNat 0 ≤ out.getD (src h x).toNat 0 + cost h x
  | y :: l, next, hx, hs, hd => by
    rw [List.foldl_cons]
    rcases List.mem_cons.1 hx with rfl | hx
    · have h1 := jfold_le h out (dst h x).toNat l (jstep h out next x)
      have h2 : (jstep h out next x).getD (dst h x).toNat 0 ≤ out.getD (src h x).toNat 0 + cost h x := by
        unfold jstep
        rw [if_pos hs, getD_set, if_pos ⟨rfl, hd⟩]
        omega
      omega
    · exact jfold_hit l _ hx hs (by rw [jstep_len]; exact hd)
theorem jfold_low {h : Hall} {out : List Int} {d : Nat → Int} (p : Pot h d) (ho : ∀ i, i < out.length → d i ≤ out.getD i 0) : ∀ (l : List Stp) (next : List Int), (∀ x ∈ l, okStp h x = true) → (∀ x ∈ l, (src h x).toNat < out.length) →
    (∀ i, i < next.length → d i ≤ next.getD i 0) → ∀ i, i < next.length → d i ≤ (l.foldl (jstep h out) next).getD i 0
  | [], next, _, _, hn, i, hi => hn i hi
  | x :: l, next, hok, hs, hn, i, hi => by
    rw [List.foldl_cons]
    refine jfold_low p ho l _ (fun y hy => hok y (by simp [hy])) (fun y hy => hs y (by simp [hy])) (fun j hj => ?_) i (by rw [jstep_len]; exact hi)
    rw [jstep_len] at hj
    have h1 := hn j hj
    unfold jstep
    split
    · rw [getD_set]
      split
      · rename_i hh
        obtain ⟨rfl, _⟩ := hh
        have h2 := p x (hok x (by simp))
        have h3 := ho _ (hs x (by simp))
        omega
      · exact h1
    · exact h1
theorem jr_le (h : Hall) (out : List Int) (i : Nat) : (jround h out).getD i 0 ≤ out.getD i 0 := jfold_le h out i _ _
section
variable {h : Hall} (v : Valid h)
include v
theorem jr_hit {out : List Int} (hl : (out.length : Int) = h.n + 1) {x : Stp} (o : okStp h x = true) (hs : out.getD (src h x).toNat 0 < nowh) : (jround h out).getD (dst h x).toNat 0 ≤ out.getD (src h x).toNat 0 + cost h x := by
  have := src_in v o
  exact jfold_hit _ _ (mem_stps v o) hs (by omega)
theorem jr_low {out : List Int} (hl : (out.length : Int) = h.n + 1) {d : Nat → Int} (p : Pot h d) (ho : ∀ i, i < out.length → d i ≤ out.getD i 0) : ∀ i, i < out.length → d i ≤ (jround h out).getD i 0 :=
  jfold_low p ho _ _ (stps_ok v) (fun x hx => by have := src_in v (stps_ok v x hx); omega) ho
theorem jr_eq {out : List Int} (hl : (out.length : Int) = h.n + 1) {d : Nat → Int} (p : Pot h d) (ho : ∀ i, i < out.length → out.getD i 0 = d i) : jround h out = out := by
  apply List.ext_getElem (jround_len h out)
  intro i h1 h2
  have a := jr_le h out i
  have b := jr_low v hl p (fun i hi => by rw [ho i hi]; exact Int.le_refl _) i h2
  rw [getD_lt h1, getD_lt h2] at a
  rw [getD_lt h1] at b
  have c := ho i h2
  rw [getD_lt h2] at c
  omega
theorem jr_dep {st : Nat} {out : List Int} (hl : (out.length : Int) = h.n + 1) {d : Nat → Int} (p : Pot h d) (hd : ∀ i : Nat, (i : Int) ≤ h.n → d i < nowh) (h0 : out.getD st 0 ≤ d st) (ho : ∀ i, i < out.length → d i ≤ out.getD i 0)
    {k : Nat} (hk : ∀ K to : Nat, K ≤ k → (to : Int) ≤ h.n → Dep h d st K to → out.getD to 0 = d to) : ∀ K to : Nat, K ≤ k + 1 → (to : Int) ≤ h.n → Dep h d st K to → (jround h out).getD to 0 = d to := by
  intro K to hK hto D
  have lo := jr_low v hl p ho to (by omega)
  have up : (jround h out).getD to 0 ≤ d to := by
    cases K with
    | zero =>
      have e : to = st := D
      rw [e]
      have := jr_le h out st
      omega
    | succ K =>
      obtain ⟨x, q, o, e1, e2, e3, D⟩ := D
      have hin := src_in v o
      have h1 := hk K q (by omega) (by omega) D
      have h2 := hd q (by omega)
      have h3 := jr_hit v hl o (by rw [e2, Int.toNat_natCast, h1]; exact h2)
      rw [e1, e2, Int.toNat_natCast, Int.toNat_natCast, h1] at h3
      omega
  omega
theorem jrun_low {st : Nat} {d : Nat → Int} (p : Pot h d) (hd : ∀ i : Nat, (i : Int) ≤ h.n → d i < nowh) (hdep : ∀ to : Nat, (to : Int) ≤ h.n → ∃ K, K ≤ h.n.toNat + 1 ∧ Dep h d st K to) :
    ∀ (j k : Nat) (out : List Int), k + j = h.n.toNat + 2 → 1 ≤ j → (out.length : Int) = h.n + 1 → out.getD st 0 ≤ d st → (∀ i, i < out.length → d i ≤ out.getD i 0) → (∀ K to : Nat, K ≤ k → (to : Int) ≤ h.n → Dep h d st K to → out.getD to 0 = d to) →
      (jrun h j out).2 = true ∧ ∀ i : Nat, (i : Int) ≤ h.n → (jrun h j out).1.getD i 0 = d i
  | j + 1, k, out, hkj, _, hl, h0, ho, hk => by
    unfold jrun
    by_cases hfx : jround h out = out
    · rw [if_pos hfx]
      refine ⟨rfl, fun i hi => ?_⟩
      simp only
      rw [hfx]
      obtain ⟨K, _, D⟩ := hdep i hi
      have key : ∀ K to : Nat, (to : Int) ≤ h.n → Dep h d st K to → out.getD to 0 = d to := by
        intro K
        induction K with
        | zero => exact fun to hto D => hk 0 to (by omega) hto D
        | succ K ih =>
          intro to hto D
          obtain ⟨x, q, o, e1, e2, e3, D⟩ := D
          have hin := src_in v o
          have h5 := ih q (by omega) D
          have h6 := hd q (by omega)
          have h7 := jr_hit v hl o (by rw [e2, Int.toNat_natCast, h5]; exact h6)
          rw [e1, e2, Int.toNat_natCast, Int.toNat_natCast, h5, hfx] at h7
          have h8 := ho to (by omega)
          omega
      exact key K i hi D
    · rw [if_neg hfx]
      have h1 := jr_dep v hl p hd h0 ho hk
      have h2 := jr_low v hl p ho
      have h3 := jround_len h out
      cases j with
      | zero =>
        exfalso
        refine hfx (jr_eq v hl p fun i hi => ?_)
        obtain ⟨K, hK, D⟩ := hdep i (by omega)
        exact hk K i (by omega) (by omega) D
      | succ j =>
        have h4 := jr_le h out st
        exact jrun_low p hd hdep (j + 1) (k + 1) (jround h out) (by omega) (by omega) (by omega) (by omega) (fun i hi => h2 i (by omega)) h1
end
theorem jrun_fix (h : Hall) : ∀ (j : Nat) (out : List Int), (jrun h j out).2 = true → jround h (jrun h j out).1 = (jrun h j out).1
  | 0, out, e => by simp [jrun] at e
  | j + 1, out, e => by
    unfold jrun at e ⊢
    by_cases hfx : jround h out = out
    · rw [if_pos hfx]; simp only; rw [hfx, hfx]
    · rw [if_neg hfx] at e ⊢; exact jrun_fix h j _ e
theorem jrun_le (h : Hall) (i : Nat) : ∀ (j : Nat) (out : List Int), (jrun h j out).1.getD i 0 ≤ out.getD i 0
  | 0, out => Int.le_refl _
  | j + 1, out => by
    have h1 := jr_le h out i
    unfold jrun
    split
    · exact h1
    · have := jrun_le h i j (jround h out); omega
/-- the reference's least sums are the program's -/
theorem leastR_eq {h : Hall} (v : Valid h) {st : Nat} (hst : (st : Int) ≤ h.n) : (leastR h st).2 = (leastM h st).2 ∧ ((leastM h st).2 = true → ∀ i : Nat, (i : Int) ≤ h.n → (leastR h st).1.getD i 0 = (leastM h st).1.sums i) := by
  have n1 := v.n1
  have n10 := v.n10
  have jl : (jini h st).length = h.n.toNat + 1 := by simp [jini]
  have j0 : (jini h st).getD st 0 = 0 := by unfold jini; rw [getD_set, if_pos ⟨rfl, by simp; omega⟩]
  cases e : (leastM h st).2 with
  | true =>
    have L := leastM_low v hst e
    have hle : ∀ i : Nat, (leastM h st).1.sums i ≤ nowh := fun i => by have := leastM_bd v st i; unfold nowh; omega
    have := jrun_low v (st := st) (d := (leastM h st).1.sums) L.pot (fun i hi => by have := L.lo i hi; have := hle i; omega) L.dep (h.n.toNat + 2) 0 (jini h st) (by omega) (by omega) (by omega) (by rw [j0, L.st0]; omega)
      (fun i hi => by
        have hs0 := L.st0
        unfold jini
        rw [getD_set]
        split
        · rename_i hh; rw [hh.1, hs0]; omega
        · have := hle i
          rw [getD_lt (by simp; omega)]
          simpa using this)
      (fun K to hK hto D => by
        obtain rfl : K = 0 := by omega
        have e : to = st := D
        rw [e, j0, L.st0])
    exact ⟨this.1, fun _ => this.2⟩
  | false =>
    refine ⟨?_, fun hh => by cases hh⟩
    cases e2 : (leastR h st).2 with
    | false => rfl
    | true =>
      exfalso
      obtain ⟨⟨_, _, _, K, _, hch⟩, hr⟩ := leastM_ring v e
      obtain ⟨_, hring, hok⟩ := hr K hch
      have hfx := jrun_fix h (h.n.toNat + 2) (jini h st) e2
      have hlen := leastR_len v st
      have hjb := (jrun_bd v (h.n.toNat + 2) 0 (jini h st) (by omega) (jini_bd st) (by omega)).1
      have hjl := jrun_le h st (h.n.toNat + 2) (jini h st)
      rw [j0] at hjl
      have eL : jrun h (h.n.toNat + 2) (jini h st) = leastR h st := rfl
      rw [eL] at hfx hjb hjl
      generalize (leastR h st).1 = out at *
      have hbd : ∀ i, out.getD i 0 = nowh ∨ out.getD i 0 ≤ 20000000000 := fun i => by
        by_cases hi : i < out.length
        · have := hjb _ (List.getElem_mem hi)
          rw [← getD_lt hi] at this
          omega
        · right; simp [List.getD, List.getElem?_eq_none (show out.length ≤ i by omega)]
      have hle : ∀ i, out.getD i 0 ≤ nowh := fun i => by have := hbd i; unfold nowh at *; omega
      have hstep : ∀ x, okStp h x = true → out.getD (src h x).toNat 0 = nowh ∨ out.getD (dst h x).toNat 0 ≤ out.getD (src h x).toNat 0 + cost h x := fun x o => by
        by_cases hn : out.getD (src h x).toNat 0 = nowh
        · exact .inl hn
        · have := jr_hit v hlen o (by have := hle (src h x).toNat; omega)
          rw [hfx] at this
          exact .inr this
      have lo := join v (d := fun i => out.getD i 0) hst hbd (by show out.getD st 0 ≠ nowh; unfold nowh; omega) hstep
      have pot : Pot h (fun i => out.getD i 0) := fun x o => by
        have hin := src_in v o
        rcases hstep x o with h1 | h1
        · exact absurd h1 (lo _ (by omega))
        · exact h1
      rw [pot.noRing hok] at hring
      cases hring
end Go.Proofs.Ytgcldgchhdjnhaa
namespace Go.Proofs.Ytgcldgchhdjnhaa
/-- the counters without those of some numbers -/
def kept (l : List Int) : Nat → List Cnt → List Cnt
  | _, [] => []
  | i, c :: cs => if l.contains (i : Int) then kept l (i + 1) cs else c :: kept l (i + 1) cs
/-- a hall without some counters -/
def wo (h : Hall) (l : List Int) : Hall := { h with cs := kept l 0 h.cs }
theorem kept_snoc (l : List Int) (c : Cnt) : ∀ (cs : List Cnt) (i : Nat), kept l i (cs ++ [c]) = kept l i cs ++ if l.contains ((i + cs.length : Nat) : Int) then [] else [c]
  | [], i => by simp [kept]
  | d :: cs, i => by
    rw [List.cons_append, kept, kept, kept_snoc l c cs (i + 1)]
    have e : i + 1 + cs.length = i + (d :: cs).length := by simp; omega
    rw [e]
    split <;> simp
theorem kept_take {l : List Int} {cs : List Cnt} {k : Nat} (hk : k < cs.length) : kept l 0 (cs.take (k + 1)) = kept l 0 (cs.take k) ++ if l.contains (k : Int) then [] else [cs[k]] := by
  have e : 0 + (cs.take k).length = k := by rw [List.length_take]; omega
  rw [List.take_succ_eq_append_getElem hk, kept_snoc, e]
theorem kept_len (l : List Int) : ∀ (cs : List Cnt) (i : Nat), (kept l i cs).length ≤ cs.length
  | [], i => by simp [kept]
  | d :: cs, i => by
    rw [kept]
    have := kept_len l cs (i + 1)
    split <;> simp <;> omega
theorem kept_mem {l : List Int} : ∀ {cs : List Cnt} {i : Nat} {c : Cnt}, c ∈ kept l i cs → c ∈ cs
  | [], i, c, h => by simp [kept] at h
  | d :: cs, i, c, h => by
    rw [kept] at h
    split at h
    · exact List.mem_cons_of_mem _ (kept_mem h)
    · rcases List.mem_cons.1 h with rfl | h
      · simp
      · exact List.mem_cons_of_mem _ (kept_mem h)
theorem wo_valid {h : Hall} (v : Valid h) (l : List Int) : Valid (wo h l) :=
  ⟨v.n1, v.n10, by have := kept_len l h.cs 0; have := v.len; show (kept l 0 h.cs).length ≤ 10; omega, v.m0, v.m1, fun c hc => v.cs c (kept_mem hc)⟩

/-- the lists that go on from one, by a number -/
def start (l : List Int) : Int := match l.getLast? with | none => 0 | some a => a + 1
def nxt (n : Int) (l : List Int) : List (List Int) := (List.range (n - start l).toNat).map fun (i : Nat) => l ++ [start l + (i : Int)]
/-- all increasing lists of so many numbers below another one -/
def incs (n : Int) : Nat → List (List Int)
  | 0 => [[]]
  | k + 1 => (incs n k).flatMap (nxt n)
/-- those that are good -/
def pickM (h : Hall) (k : Nat) : List (List Int) := (incs h.cs.length k).filter fun l => (leastM (wo h l) 0).2
def fewM (h : Hall) : Nat → Nat → List (List Int)
  | 0, _ => []
  | j + 1, k => if (pickM h k).isEmpty then fewM h j (k + 1) else pickM h k
/-- all lists of the fewest counters that can be wrong -/
def fewestM (h : Hall) : List (List Int) := fewM h (h.cs.length + 1) 0
def wrongErr (h : Hall) : Int := chk h
def wrongL (h : Hall) : List Int := if chk h = 0 then (fewestM h).headD [] else []
def listsN (h : Hall) : Int := if chk h = 0 then (fewestM h).length else 0
def kindErr (h : Hall) (c : Int) : Int := if chk h ≠ 0 then chk h else if c < 0 ∨ (h.cs.length : Int) ≤ c then 2 else 0
def kindN (h : Hall) (c : Int) : Int :=
  if kindErr h c ≠ 0 then 0 else if (fewestM h).countP (fun l => l.contains c) = 0 then 0 else if (fewestM h).countP (fun l => l.contains c) = (fewestM h).length then 2 else 1

/-- no list of them has more than ten numbers, and there are not many -/
def wgt (n : Int) (l : List Int) : Nat := 2 ^ (n - start l).toNat
def wgts (n : Int) (ls : List (List Int)) : Nat := (ls.map (wgt n)).sum
theorem start_snoc (l : List Int) (a : Int) : start (l ++ [a]) = a + 1 := by unfold start; simp
theorem pow_sum : ∀ m : Nat, ((List.range m).map fun i => 2 ^ (m - (i + 1))).sum < 2 ^ m
  | 0 => by simp
  | m + 1 => by
    rw [List.range_succ_eq_map, List.map_cons, List.sum_cons, List.map_map]
    have := pow_sum m
    have e : ((List.range m).map ((fun i => 2 ^ (m + 1 - (i + 1))) ∘ Nat.succ)) = (List.range m).map fun i => 2 ^ (m - (i + 1)) := by
      refine List.map_congr_left fun i _ => ?_
      show 2 ^ (m + 1 - (i + 1 + 1)) = _
      congr 1; omega
    rw [e, Nat.pow_succ]
    simp only [Nat.zero_add, Nat.add_sub_cancel]
    omega
theorem wgts_nxt (n : Int) (l : List Int) : wgts n (nxt n l) ≤ wgt n l := by
  unfold wgts nxt wgt
  rw [List.map_map]
  have := pow_sum (n - start l).toNat
  have e : ((List.range (n - start l).toNat).map ((fun l => 2 ^ (n - start l).toNat) ∘ fun (i : Nat) => l ++ [start l + i])) = (List.range (n - start l).toNat).map fun i => 2 ^ ((n - start l).toNat - (i + 1)) := by
    refine List.map_congr_left fun i _ => ?_
    show 2 ^ (n - start (l ++ [start l + i])).toNat = _
    rw [start_snoc]
    congr 1; omega
  rw [e]
  omega
theorem wgts_flat (n : Int) : ∀ ls : List (List Int), wgts n (ls.flatMap (nxt n)) ≤ wgts n ls
  | [] => by simp [wgts]
  | l :: ls => by
    have h1 := wgts_nxt n l
    have h2 := wgts_flat n ls
    unfold wgts at *
    simp only [List.flatMap_cons, List.map_append, List.sum_append, List.map_cons, List.sum_cons]
    omega
theorem wgts_len (n : Int) : ∀ ls : List (List Int), ls.length ≤ wgts n ls
  | [] => by simp
  | l :: ls => by
    have h2 := wgts_len n ls
    have : 1 ≤ wgt n l := Nat.one_le_two_pow
    unfold wgts at *
    simp only [List.map_cons, List.sum_cons, List.length_cons]
    omega
theorem incs_wgts (n : Int) : ∀ k, wgts n (incs n k) ≤ 2 ^ n.toNat
  | 0 => by simp [incs, wgts, wgt, start]
  | k + 1 => Nat.le_trans (wgts_flat n _) (incs_wgts n k)
theorem incs_len {n : Int} (hn : n ≤ 10) (k : Nat) : (incs n k).length ≤ 1024 := by
  have h1 := wgts_len n (incs n k)
  have h2 := incs_wgts n k
  have h3 : 2 ^ n.toNat ≤ 2 ^ 10 := Nat.pow_le_pow_right (by omega) (by omega)
  omega
/-- increasing, below a number, from 0 on -/
def Inc (n : Int) (l : List Int) : Prop := (∀ x ∈ l, 0 ≤ x ∧ x < start l) ∧ start l ≤ n ∧ (l.length : Int) ≤ start l
theorem nxt_mem {n : Int} {l m : List Int} (h : m ∈ nxt n l) : ∃ i : Nat, start l + i < n ∧ m = l ++ [start l + i] := by
  unfold nxt at h
  rw [List.mem_map] at h
  obtain ⟨i, hi, rfl⟩ := h
  have := List.mem_range.1 hi
  exact ⟨i, by omega, rfl⟩
theorem start_nn {l : List Int} (h : ∀ x ∈ l, 0 ≤ x) : 0 ≤ start l := by
  unfold start
  cases e : l.getLast? with
  | none => simp
  | some a =>
    have := h a (List.mem_of_getLast? e)
    simp only; omega
theorem Inc.nxt {n : Int} {l m : List Int} (h : Inc n l) (hm : m ∈ nxt n l) : Inc n m := by
  obtain ⟨i, hi, rfl⟩ := nxt_mem hm
  have h0 := start_nn fun x hx => (h.1 x hx).1
  refine ⟨fun x hx => ?_, ?_, ?_⟩
  · rw [start_snoc]
    rcases List.mem_append.1 hx with hx | hx
    · have := h.1 x hx; omega
    · simp at hx; omega
  · rw [start_snoc]; omega
  · rw [start_snoc]
    have := h.2.2
    simp; omega
theorem incs_inc {n : Int} (hn : 0 ≤ n) : ∀ k, ∀ l ∈ incs n k, Inc n l
  | 0, l, h => by
    simp [incs] at h
    subst h
    exact ⟨by simp, by simpa [start] using hn, by simp [start]⟩
  | k + 1, l, h => by
    rw [incs, List.mem_flatMap] at h
    obtain ⟨m, hm, hl⟩ := h
    exact (incs_inc hn k m hm).nxt hl
end Go.Proofs.Ytgcldgchhdjnhaa
namespace Go.Proofs.Ytgcldgchhdjnhaa

theorem agree_of_pot {h : Hall} (v : Valid h) {d : Nat → Int} (p : Pot h d) (st : Nat) : (leastM h st).2 = true := by
  cases e : (leastM h st).2 with
  | true => rfl
  | false =>
    obtain ⟨⟨_, _, _, K, _, hc⟩, hr⟩ := leastM_ring v e
    obtain ⟨_, h1, h2⟩ := hr K hc
    rw [p.noRing h2] at h1
    cases h1
theorem pot_of_agree {h : Hall} (v : Valid h) {st : Nat} (hst : (st : Int) ≤ h.n) (e : (leastM h st).2 = true) : Pot h (leastM h st).1.sums := (leastM_low v hst e).pot
theorem agree_any_st {h : Hall} (v : Valid h) {st st' : Nat} (hst : (st : Int) ≤ h.n) : (leastM h st).2 = true → (leastM h st').2 = true := fun e => agree_of_pot v (pot_of_agree v hst e) st'
theorem agree_st {h : Hall} (v : Valid h) {st : Nat} (hst : (st : Int) ≤ h.n) : (leastM h st).2 = (leastM h 0).2 := by
  have n1 := v.n1
  cases e : (leastM h st).2 with
  | true => exact (agree_any_st v hst e).symm
  | false =>
    cases e0 : (leastM h 0).2 with
    | false => rfl
    | true => rw [agree_any_st (st' := st) v (by omega) e0] at e; cases e
/-- do the counters agree? -/
def Agr (h : Hall) : Prop := ∃ d, Pot h d
theorem agr_iff {h : Hall} (v : Valid h) : (leastM h 0).2 = true ↔ Agr h :=
  ⟨fun e => ⟨_, pot_of_agree v (by have := v.n1; omega) e⟩, fun ⟨_, p⟩ => agree_of_pot v p 0⟩

theorem kept_all {l : List Int} : ∀ (cs : List Cnt) (i : Nat), (∀ j, i ≤ j → j < i + cs.length → l.contains (j : Int) = true) → kept l i cs = []
  | [], _, _ => rfl
  | c :: cs, i, h => by
    rw [kept, if_pos (h i (Nat.le_refl _) (by simp)), kept_all cs (i + 1) fun j h1 h2 => h j (by omega) (by simp at h2 ⊢; omega)]
theorem pot_bare {h : Hall} (v : Valid h) (e : h.cs = []) : Pot h (fun _ => 0) := fun x o => by
  have m0 := v.m0
  have hw : x.win = true := by
    cases hx : x.win with
    | true => rfl
    | false => simp [okStp, hx, e] at o; omega
  unfold cost stpC
  rw [if_pos hw]
  split <;> simp <;> omega
theorem up_mem (n : Int) : ∀ k : Nat, (k : Int) ≤ n → (List.range k).map (fun (i : Nat) => (i : Int)) ∈ incs n k ∧ start ((List.range k).map (fun (i : Nat) => (i : Int))) = k
  | 0, _ => by simp [incs, start]
  | k + 1, hk => by
    obtain ⟨h1, h2⟩ := up_mem n k (by omega)
    rw [List.range_succ, List.map_append]
    refine ⟨?_, by rw [List.map_cons, List.map_nil, start_snoc]; omega⟩
    rw [incs, List.mem_flatMap]
    refine ⟨_, h1, ?_⟩
    unfold nxt
    rw [h2, List.mem_map]
    exact ⟨0, List.mem_range.2 (by omega), by simp⟩
theorem pick_full {h : Hall} (v : Valid h) : pickM h h.cs.length ≠ [] := by
  obtain ⟨h1, _⟩ := up_mem h.cs.length h.cs.length (Int.le_refl _)
  refine List.ne_nil_of_mem (a := (List.range h.cs.length).map fun (i : Nat) => (i : Int)) ?_
  unfold pickM
  rw [List.mem_filter]
  refine ⟨h1, ?_⟩
  have v2 := wo_valid v ((List.range h.cs.length).map fun (i : Nat) => (i : Int))
  refine agree_of_pot v2 (pot_bare v2 ?_) 0
  refine kept_all _ _ fun j _ hj => ?_
  rw [List.contains_iff_mem, List.mem_map]
  exact ⟨j, List.mem_range.2 (by omega), rfl⟩
theorem fewM_ne {h : Hall} : ∀ (j k i : Nat), k ≤ i → i < k + j → pickM h i ≠ [] → fewM h j k ≠ []
  | 0, k, i, h1, h2, _ => by omega
  | j + 1, k, i, h1, h2, h3 => by
    rw [fewM]
    split
    · rename_i he
      by_cases hik : i = k
      · subst hik; exact absurd (List.isEmpty_iff.1 he) h3
      · exact fewM_ne j (k + 1) i (by omega) (by omega) h3
    · rename_i he
      intro e
      rw [e] at he
      simp at he
theorem fewestM_ne {h : Hall} (v : Valid h) : fewestM h ≠ [] := fewM_ne _ _ h.cs.length (by omega) (by omega) (pick_full v)
theorem wayE_of {h : Hall} {f t : Int} {l : List Stp} (ho : openE h [f, t] = 0) (hl : l.length ≤ 200) (w : IsW h f l t) : wayE h f t l = ((l.map (cost h)).sum, 0) := by
  unfold wayE
  have hany : l.any (oddS h) = false := by
    rw [List.any_eq_false]
    intro x hx
    have := w.1 x hx
    simp [oddS, this]
  rw [if_neg (fun hh => hh ho), if_neg (by omega), if_neg (by simp [hany]), w.2 0]
  simp
theorem ringsErrR_one {h : Hall} {l : List Stp} (hc : chk h = 0) (hl : l.length ≤ 200) (ok : ∀ x ∈ l, okStp h x = true) (r : isRingM h l = true) : ringsErrR h [l] = 0 := by
  unfold ringsErrR
  have hany : l.any (oddS h) = false := by
    rw [List.any_eq_false]
    intro x hx
    have := ok x hx
    simp [oddS, this]
  have hu : ∀ c, usedBy [l] c ≤ 1 := fun c => by
    unfold usedBy
    exact List.countP_le_length
  rw [if_neg (fun hh => hh hc), if_neg (by simp; omega), if_neg (by simp [hany]), if_neg (by simp [r]), if_neg]
  rw [List.any_eq_true]
  rintro ⟨c, _, hcc⟩
  have := hu c
  simp at hcc
  omega
end Go.Proofs.Ytgcldgchhdjnhaa
namespace Go.Proofs.Ytgcldgchhdjnhaa
theorem span_eq (h : Hall) (f t : Int) : spanE h f t = spanER h f t ∧ spanLo h f t = spanLoR h f t ∧ spanHi h f t = spanHiR h f t := by
  have e : spanE h f t = spanER h f t := by
    unfold spanE spanER
    by_cases hc : chk h = 0
    · rw [if_neg (show ¬ (chk h ≠ 0) from fun hh => hh hc), if_neg (show ¬ (chk h ≠ 0) from fun hh => hh hc)]
      by_cases hb : f < 0 ∨ t < f ∨ h.n ≤ t
      · rw [if_pos hb, if_pos hb]
      · rw [if_neg hb, if_neg hb]
        have v := valid_of_chk hc
        rw [agree_st v (by omega), (leastR_eq v (st := 0) (by have := v.n1; omega)).1]
    · rw [if_pos hc, if_pos hc]
  refine ⟨e, ?_, ?_⟩
  · unfold spanLo spanLoR
    rw [← e]
    by_cases he : spanE h f t = 0
    · rw [if_pos he, if_pos he]
      unfold spanE at he
      by_cases hc : chk h = 0
      · rw [if_neg (show ¬ (chk h ≠ 0) from fun hh => hh hc)] at he
        by_cases hb : f < 0 ∨ t < f ∨ h.n ≤ t
        · rw [if_pos hb] at he; omega
        · rw [if_neg hb] at he
          have v := valid_of_chk hc
          have h1 : (leastM h f.toNat).2 = true := by
            cases hl : (leastM h f.toNat).2 with
            | true => rfl
            | false => rw [hl] at he; simp at he
          have h2 : (leastM h (t.toNat + 1)).2 = true := agree_any_st v (st := f.toNat) (by omega) h1
          rw [(leastR_eq v (st := t.toNat + 1) (by omega)).2 h2 f.toNat (by omega)]
      · rw [if_pos hc] at he; exact absurd he hc
    · rw [if_neg he, if_neg he]
  · unfold spanHi spanHiR
    rw [← e]
    by_cases he : spanE h f t = 0
    · rw [if_pos he, if_pos he]
      unfold spanE at he
      by_cases hc : chk h = 0
      · rw [if_neg (show ¬ (chk h ≠ 0) from fun hh => hh hc)] at he
        by_cases hb : f < 0 ∨ t < f ∨ h.n ≤ t
        · rw [if_pos hb] at he; omega
        · rw [if_neg hb] at he
          have v := valid_of_chk hc
          have h1 : (leastM h f.toNat).2 = true := by
            cases hl : (leastM h f.toNat).2 with
            | true => rfl
            | false => rw [hl] at he; simp at he
          rw [(leastR_eq v (st := f.toNat) (by omega)).2 h1 (t.toNat + 1) (by omega)]
      · rw [if_pos hc] at he; exact absurd he hc
    · rw [if_neg he, if_neg he]
theorem truthErr_eq (h : Hall) : truthErr h = truthErrR h := by
  unfold truthErr truthErrR
  by_cases hc : chk h = 0
  · rw [if_neg (show ¬ (chk h ≠ 0) from fun hh => hh hc), if_neg (show ¬ (chk h ≠ 0) from fun hh => hh hc)]
    have v := valid_of_chk hc
    rw [(leastR_eq v (st := 0) (by have := v.n1; omega)).1]
  · rw [if_pos hc, if_pos hc]
theorem wayErr_eq (h : Hall) (f t : Int) : wayErr h f t = wayErrR h f t := by
  unfold wayErr wayErrR
  by_cases ho : openE h [f, t] = 0
  · rw [if_neg (show ¬ (openE h [f, t] ≠ 0) from fun hh => hh ho), if_neg (show ¬ (openE h [f, t] ≠ 0) from fun hh => hh ho)]
    obtain ⟨hc, h1, h2, h3, h4⟩ := open_places ho
    have v := valid_of_chk hc
    unfold truthErrR
    rw [if_neg (show ¬ (chk h ≠ 0) from fun hh => hh hc), agree_st v (by omega), (leastR_eq v (st := 0) (by have := v.n1; omega)).1]
  · rw [if_pos ho, if_pos ho]
end Go.Proofs.Ytgcldgchhdjnhaa
