/-
  The plain side of the chapter: counters, steps and halls as plain data, and what the functions of the program and of the references compute of them. No program in sight.
  The cheapest steps between places, as the program keeps them: plain.
  The least sums of ways, as the program reckons them: plain.
  How far the least sums can be: plain.
  What the functions of the program and of the references compute, as plain data: definitions, and their first laws. No program in sight.
-/
namespace Go.Proofs.Ytgcldgchhdjnhaa
/-- a counter: the windows from f to t, between lo and hi -/
structure Cnt where
  f : Int
  t : Int
  lo : Int
  hi : Int
deriving DecidableEq
/-- a step: over a window or a counter, forth or back -/
structure Stp where
  win : Bool
  idx : Int
  back : Bool
deriving DecidableEq
structure Hall where
  n : Int
  most : Int
  cs : List Cnt
deriving DecidableEq
/-- from the one number to the other one -/
def inR (lo hi n : Int) : Bool := !(decide (n < lo) || decide (hi < n))
/-- the error of a hall -/
def chk (h : Hall) : Int :=
  if h.n < 1 ∨ 10 < h.n ∨ 10 < h.cs.length then 6
  else if h.cs.any (fun c => decide (c.f < 0) || decide (c.t < c.f) || decide (h.n ≤ c.t)) then 2
  else if h.most < 0 ∨ 1000000 < h.most then 3
  else if h.cs.any (fun c => !(decide (0 ≤ c.lo) && decide (c.lo ≤ c.hi) && decide (c.hi ≤ 10000000))) then 3
  else 0

/-- what a valid hall is -/
structure Valid (h : Hall) : Prop where
  n1 : 1 ≤ h.n
  n10 : h.n ≤ 10
  len : h.cs.length ≤ 10
  m0 : 0 ≤ h.most
  m1 : h.most ≤ 1000000
  cs : ∀ c ∈ h.cs, 0 ≤ c.f ∧ c.f ≤ c.t ∧ c.t < h.n ∧ 0 ≤ c.lo ∧ c.lo ≤ c.hi ∧ c.hi ≤ 10000000
theorem valid_of_chk {h : Hall} (e : chk h = 0) : Valid h := by
  unfold chk at e
  by_cases h1 : h.n < 1 ∨ 10 < h.n ∨ 10 < h.cs.length
  · rw [if_pos h1] at e; omega
  rw [if_neg h1] at e
  by_cases h2 : h.cs.any (fun c => decide (c.f < 0) || decide (c.t < c.f) || decide (h.n ≤ c.t)) = true
  · rw [if_pos h2] at e; omega
  rw [if_neg h2] at e
  by_cases h3 : h.most < 0 ∨ 1000000 < h.most
  · rw [if_pos h3] at e; omega
  rw [if_neg h3] at e
  by_cases h4 : h.cs.any (fun c => !(decide (0 ≤ c.lo) && decide (c.lo ≤ c.hi) && decide (c.hi ≤ 10000000))) = true
  · rw [if_pos h4] at e; omega
  refine ⟨by omega, by omega, by omega, by omega, by omega, fun c hc => ?_⟩
  have a : ¬ (c.f < 0 ∨ c.t < c.f ∨ h.n ≤ c.t) := fun hh => h2 (by rw [List.any_eq_true]; exact ⟨c, hc, by simp; omega⟩)
  have b : ¬ ¬ (0 ≤ c.lo ∧ c.lo ≤ c.hi ∧ c.hi ≤ 10000000) := fun hh => h4 (by rw [List.any_eq_true]; exact ⟨c, hc, by simp; omega⟩)
  omega
theorem chk_of_valid {h : Hall} (v : Valid h) : chk h = 0 := by
  unfold chk
  have := v.n1; have := v.n10; have := v.len; have := v.m0; have := v.m1
  rw [if_neg (by omega), if_neg, if_neg (by omega), if_neg]
  · rw [List.any_eq_true]
    rintro ⟨c, hc, h2⟩
    have := v.cs c hc
    simp at h2; omega
  · rw [List.any_eq_true]
    rintro ⟨c, hc, h2⟩
    have := v.cs c hc
    simp at h2; omega
/-- may a step be in a way of the hall? -/
def okStp (h : Hall) (x : Stp) : Bool := if x.win then decide (0 ≤ x.idx) && decide (x.idx < h.n) else decide (0 ≤ x.idx) && decide (x.idx < (h.cs.length : Int))
/-- the counter whose windows a step passes; a window counts itself -/
def stpC (h : Hall) (x : Stp) : Cnt := if x.win then ⟨x.idx, x.idx, 0, h.most⟩ else h.cs.getD x.idx.toNat ⟨0, 0, 0, 0⟩
/-- from where, to where, and what it costs -/
def src (h : Hall) (x : Stp) : Int := if x.back then (stpC h x).t + 1 else (stpC h x).f
def dst (h : Hall) (x : Stp) : Int := if x.back then (stpC h x).f else (stpC h x).t + 1
def cost (h : Hall) (x : Stp) : Int := if x.back then -(stpC h x).lo else (stpC h x).hi
theorem stpC_ok {h : Hall} (v : Valid h) {x : Stp} (o : okStp h x = true) :
    0 ≤ (stpC h x).f ∧ (stpC h x).f ≤ (stpC h x).t ∧ (stpC h x).t < h.n ∧ 0 ≤ (stpC h x).lo ∧ (stpC h x).lo ≤ (stpC h x).hi ∧ (stpC h x).hi ≤ 10000000 := by
  unfold okStp at o
  unfold stpC
  have := v.m0; have := v.m1
  by_cases hw : x.win = true
  · rw [if_pos hw] at o ⊢
    simp at o ⊢
    omega
  · rw [if_neg hw] at o ⊢
    simp at o
    have hl : x.idx.toNat < h.cs.length := by omega
    have e : h.cs.getD x.idx.toNat ⟨0, 0, 0, 0⟩ = h.cs[x.idx.toNat] := by simp [List.getD, hl]
    rw [e]
    exact v.cs _ (List.getElem_mem hl)
/-- the steps over the window, or the counter, of a number: counters come behind the windows -/
def pairAt (h : Hall) (i : Nat) : List Stp :=
  if (i : Int) < h.n then [⟨true, i, false⟩, ⟨true, i, true⟩] else [⟨false, (i : Int) - h.n, false⟩, ⟨false, (i : Int) - h.n, true⟩]
/-- all steps of a hall -/
def stps (h : Hall) : List Stp := (List.range (h.n.toNat + h.cs.length)).flatMap (pairAt h)
theorem pairAt_ok {h : Hall} (v : Valid h) {i : Nat} (hi : i < h.n.toNat + h.cs.length) : ∀ x ∈ pairAt h i, okStp h x = true := by
  have := v.n1
  intro x hx
  unfold pairAt at hx
  by_cases hw : (i : Int) < h.n
  · rw [if_pos hw] at hx
    simp at hx
    rcases hx with rfl | rfl <;> simp [okStp] <;> omega
  · rw [if_neg hw] at hx
    simp at hx
    rcases hx with rfl | rfl <;> simp [okStp] <;> omega
theorem stps_ok {h : Hall} (v : Valid h) : ∀ x ∈ stps h, okStp h x = true := by
  intro x hx
  unfold stps at hx
  rw [List.mem_flatMap] at hx
  obtain ⟨i, hi, hx⟩ := hx
  exact pairAt_ok v (by simpa using hi) x hx
theorem mem_stps {h : Hall} (v : Valid h) {x : Stp} (o : okStp h x = true) : x ∈ stps h := by
  have := v.n1
  obtain ⟨xw, xi, xb⟩ := x
  unfold stps
  rw [List.mem_flatMap]
  cases xw
  · simp [okStp] at o
    refine ⟨h.n.toNat + xi.toNat, by simp; omega, ?_⟩
    unfold pairAt
    rw [if_neg (by omega)]
    have e : ((h.n.toNat + xi.toNat : Nat) : Int) - h.n = xi := by omega
    rw [e]
    cases xb <;> simp
  · simp [okStp] at o
    refine ⟨xi.toNat, by simp; omega, ?_⟩
    unfold pairAt
    rw [if_pos (by omega)]
    have e : ((xi.toNat : Nat) : Int) = xi := by omega
    rw [e]
    cases xb <;> simp
theorem pairAt_len (h : Hall) (i : Nat) : (pairAt h i).length = 2 := by unfold pairAt; split <;> rfl
end Go.Proofs.Ytgcldgchhdjnhaa
namespace Go.Proofs.Ytgcldgchhdjnhaa
def nowh : Int := 1099511627776
def initA (h : Hall) (k : Int × Int) : Option (Stp × Int) :=
  if 0 ≤ k.1 ∧ k.1 ≤ h.n ∧ 0 ≤ k.2 ∧ k.2 ≤ h.n then some (⟨false, 0, false⟩, nowh) else none
def relax (h : Hall) (f : Int × Int → Option (Stp × Int)) (x : Stp) (k : Int × Int) : Option (Stp × Int) :=
  match f k with
  | some a => if k = (src h x, dst h x) ∧ cost h x < a.2 then some (x, cost h x) else some a
  | none => none
def arcsUp (h : Hall) (xs : List Stp) : Int × Int → Option (Stp × Int) := xs.foldl (relax h) (initA h)
theorem arcsUp_snoc (h : Hall) (xs : List Stp) (x : Stp) : arcsUp h (xs ++ [x]) = relax h (arcsUp h xs) x := by simp [arcsUp]
def arcs (h : Hall) (k : Int × Int) : Option (Stp × Int) :=
  match arcsUp h (stps h) k with
  | some a => if a.2 = nowh then none else some a
  | none => none
theorem arcsUp_some (h : Hall) (xs : List Stp) {k : Int × Int} (hk : 0 ≤ k.1 ∧ k.1 ≤ h.n ∧ 0 ≤ k.2 ∧ k.2 ≤ h.n) : ∃ a, arcsUp h xs k = some a := by
  unfold arcsUp
  have : ∀ (f : Int × Int → Option (Stp × Int)), (∃ a, f k = some a) → ∃ a, xs.foldl (relax h) f k = some a := by
    induction xs with
    | nil => exact fun f hf => hf
    | cons x xs ih =>
      intro f hf
      refine ih _ ?_
      obtain ⟨a, ha⟩ := hf
      unfold relax
      rw [ha]
      by_cases hc : k = (src h x, dst h x) ∧ cost h x < a.2
      · exact ⟨_, by simp only; rw [if_pos hc]⟩
      · exact ⟨_, by simp only; rw [if_neg hc]⟩
  exact this _ ⟨_, by unfold initA; rw [if_pos hk]⟩
end Go.Proofs.Ytgcldgchhdjnhaa
namespace Go.Proofs.Ytgcldgchhdjnhaa
/-- least sums, the places before, the steps from them, and the place that was bettered last -/
structure WSt where
  sums : Nat → Int
  before : Nat → Int
  by_ : Nat → Stp
  ringed : Int
def upd {α : Type} (f : Nat → α) (i : Nat) (v : α) : Nat → α := fun j => if j = i then v else f j
def lstep (A : Int × Int → Option (Stp × Int)) (s : WSt) (p q : Nat) : WSt :=
  match A ((p : Int), (q : Int)) with
  | none => s
  | some a => if s.sums p = nowh ∨ s.sums q ≤ s.sums p + a.2 then s else ⟨upd s.sums q (s.sums p + a.2), upd s.before q (p : Int), upd s.by_ q a.1, (q : Int)⟩
def stQ (A : Int × Int → Option (Stp × Int)) (p : Nat) (s : WSt) : Nat → WSt
  | 0 => s
  | q + 1 => lstep A (stQ A p s q) p q
def stP (A : Int × Int → Option (Stp × Int)) (N : Nat) (s : WSt) : Nat → WSt
  | 0 => s
  | p + 1 => stQ A p (stP A N s p) N
def same11 (s t : WSt) : Bool := (List.range 11).all fun i => s.sums i == t.sums i
def lrun (A : Int × Int → Option (Stp × Int)) (N : Nat) : Nat → WSt → WSt × Bool
  | 0, s => (s, false)
  | k + 1, s => if same11 s (stP A N s N) then (stP A N s N, true) else lrun A N k (stP A N s N)
def lini (start : Nat) : WSt := ⟨fun i => if i = start then 0 else nowh, fun _ => 0, fun _ => ⟨false, 0, false⟩, 0⟩
/-- what least returns: the ways from a place; whether there is no ring -/
def leastM (h : Hall) (start : Nat) : WSt × Bool := lrun (arcs h) (h.n.toNat + 1) (h.n.toNat + 2) (lini start)
/-- how far the sums can be by now -/
def Bd (t : Int) (s : WSt) : Prop := ∀ i, s.sums i = nowh ∨ (-(10000000 * t) ≤ s.sums i ∧ s.sums i ≤ 10000000 * t)
def CostB (A : Int × Int → Option (Stp × Int)) : Prop := ∀ k a, A k = some a → -10000000 ≤ a.2 ∧ a.2 ≤ 10000000
theorem Bd.mono {t u : Int} {s : WSt} (h : Bd t s) (htu : t ≤ u) : Bd u s := fun i => by
  rcases h i with h | h
  · exact .inl h
  · right; omega
theorem Bd.lstep {A : Int × Int → Option (Stp × Int)} (hA : CostB A) {t : Int} {s : WSt} (h : Bd t s) (p q : Nat) : Bd (t + 1) (lstep A s p q) := by
  unfold Go.Proofs.Ytgcldgchhdjnhaa.lstep
  cases ha : A ((p : Int), (q : Int)) with
  | none => exact h.mono (by omega)
  | some a =>
    simp only
    split
    · exact h.mono (by omega)
    · rename_i hc
      intro i
      have hp := h p
      have hcost := hA _ _ ha
      simp only [upd]
      by_cases hi : i = q
      · rw [if_pos hi]; omega
      · rw [if_neg hi]
        rcases h i with h | h
        · exact .inl h
        · right; omega
theorem Bd.stQ {A : Int × Int → Option (Stp × Int)} (hA : CostB A) {t : Int} {s : WSt} (h : Bd t s) (p : Nat) : ∀ q : Nat, Bd (t + q) (stQ A p s q)
  | 0 => by simpa [Go.Proofs.Ytgcldgchhdjnhaa.stQ] using h
  | q + 1 => by have := (Bd.stQ hA h p q).lstep hA p q; exact this.mono (by omega)
theorem Bd.stP {A : Int × Int → Option (Stp × Int)} (hA : CostB A) {N : Nat} {t : Int} {s : WSt} (h : Bd t s) : ∀ p : Nat, Bd (t + p * N) (stP A N s p)
  | 0 => by simpa [Go.Proofs.Ytgcldgchhdjnhaa.stP] using h
  | p + 1 => by
    have := (Bd.stP (N := N) hA h p).stQ hA p N
    refine this.mono ?_
    have e : ((p + 1 : Nat) : Int) * N = p * N + N := by rw [Int.natCast_add, Int.add_mul]; omega
    omega
theorem bd_lini (start : Nat) : Bd 0 (lini start) := fun i => by
  unfold lini
  by_cases h : i = start
  · simp [h]
  · simp [h]
theorem costB_arcs {h : Hall} (v : Valid h) : CostB (arcs h) := by
  intro k a ha
  unfold arcs at ha
  have key : ∀ (xs : List Stp), (∀ x ∈ xs, okStp h x = true) → ∀ (f : Int × Int → Option (Stp × Int)), (∀ k a, f k = some a → a.2 = nowh ∨ (-10000000 ≤ a.2 ∧ a.2 ≤ 10000000)) → ∀ k a, xs.foldl (relax h) f k = some a → a.2 = nowh ∨ (-10000000 ≤ a.2 ∧ a.2 ≤ 10000000) := by
    intro xs
    induction xs with
    | nil => exact fun _ f hf => hf
    | cons x xs ih =>
      intro hok f hf
      refine ih (fun y hy => hok y (List.mem_cons_of_mem _ hy)) _ ?_
      intro k a hr
      unfold relax at hr
      cases hfk : f k with
      | none => rw [hfk] at hr; cases hr
      | some b =>
        rw [hfk] at hr
        simp only at hr
        split at hr
        · cases hr
          right
          have := stpC_ok v (hok x (by simp))
          have := v.m0; have := v.m1
          unfold cost
          split <;> simp <;> omega
        · cases hr; exact hf k _ hfk
  have := key (stps h) (stps_ok v) (initA h) (fun k a hi => by unfold initA at hi; split at hi; cases hi; exact .inl rfl; cases hi) k
  unfold arcsUp at ha
  cases hx : (stps h).foldl (relax h) (initA h) k with
  | none => rw [hx] at ha; cases ha
  | some b =>
    rw [hx] at ha
    simp only at ha
    split at ha
    · cases ha
    · cases ha
      rcases this _ hx with h | h
      · exact absurd h ‹_›
      · exact h
end Go.Proofs.Ytgcldgchhdjnhaa
namespace Go.Proofs.Ytgcldgchhdjnhaa
theorem bd_lrun {A : Int × Int → Option (Stp × Int)} (hA : CostB A) {N : Nat} (hN : N ≤ 11) : ∀ (k : Nat) (t : Int) (s : WSt), Bd t s → 0 ≤ t → Bd (t + k * 121) (lrun A N k s).1
  | 0, t, s, h, _ => by simpa [lrun] using h
  | k + 1, t, s, h, ht => by
    have e : ((N * N : Nat) : Int) ≤ 121 := by
      have := Nat.mul_le_mul hN hN
      omega
    have e2 : (N : Int) * N ≤ 121 := by simpa using e
    have h1 : Bd (t + 121) (stP A N s N) := (h.stP hA (N := N) N).mono (by omega)
    unfold lrun
    split
    · exact h1.mono (by omega)
    · have := bd_lrun hA hN k (t + 121) _ h1 (by omega)
      refine this.mono ?_
      have e3 : ((k + 1 : Nat) : Int) = k + 1 := by simp
      rw [e3, Int.add_mul]
      omega
theorem leastM_bd {h : Hall} (v : Valid h) (st i : Nat) : -20000000000 ≤ (leastM h st).1.sums i ∧ (leastM h st).1.sums i ≤ 1099511627776 := by
  have n1 := v.n1
  have n10 := v.n10
  have hb := bd_lrun (costB_arcs v) (N := h.n.toNat + 1) (by omega) (h.n.toNat + 2) 0 (lini st) (bd_lini st) (by omega)
  have := hb i
  unfold nowh at this
  unfold leastM
  omega
end Go.Proofs.Ytgcldgchhdjnhaa
namespace Go.Proofs.Ytgcldgchhdjnhaa
def oddP (n p : Int) : Bool := decide (p < 0) || decide (n < p)
def openE (h : Hall) (ps : List Int) : Int := if chk h ≠ 0 then chk h else if ps.any (oddP h.n) then 2 else 0
theorem openE_nil (h : Hall) : openE h [] = chk h := by
  unfold openE
  by_cases e : chk h = 0 <;> simp [e]
/-- follow a way on, from a place with a sum -/
def fol (h : Hall) (s f : Int) : List Stp → Int × Int × Bool
  | [] => (s, f, true)
  | x :: l => if src h x = f then fol h (s + cost h x) (dst h x) l else (0, 0, false)
def isRingM (h : Hall) (l : List Stp) : Bool :=
  match l with
  | [] => false
  | x :: _ => (fol h 0 (src h x) l).2.2 && decide ((fol h 0 (src h x) l).2.1 = src h x) && decide ((fol h 0 (src h x) l).1 < 0)
theorem cost_bd {h : Hall} (v : Valid h) {x : Stp} (o : okStp h x = true) : -10000000 ≤ cost h x ∧ cost h x ≤ 10000000 := by
  have := stpC_ok v o
  unfold cost
  split <;> omega
theorem fol_bd {h : Hall} (v : Valid h) : ∀ (l : List Stp) (s f : Int) (m : Int), (∀ x ∈ l, okStp h x = true) → -(10000000 * m) ≤ s → s ≤ 10000000 * m → 0 ≤ m →
    -(10000000 * (m + l.length)) ≤ (fol h s f l).1 ∧ (fol h s f l).1 ≤ 10000000 * (m + l.length)
  | [], s, f, m, _, h1, h2, _ => by simp [fol]; omega
  | x :: l, s, f, m, ho, h1, h2, h3 => by
    unfold fol
    split
    · have hb := cost_bd v (ho x (by simp))
      have := fol_bd v l (s + cost h x) (dst h x) (m + 1) (fun y hy => ho y (by simp [hy])) (by omega) (by omega) (by omega)
      simp only [List.length_cons]
      rw [Int.natCast_add]
      omega
    · simp; omega
/-- the error of a way's steps, and of a way -/
def oddS (h : Hall) (x : Stp) : Bool := !(okStp h x)
def wayE (h : Hall) (f t : Int) (l : List Stp) : Int × Int :=
  if openE h [f, t] ≠ 0 then (0, openE h [f, t]) else if 200 < l.length then (0, 6) else if l.any (oddS h) then (0, 3)
  else if (fol h 0 f l).2.2 = true ∧ (fol h 0 f l).2.1 = t then ((fol h 0 f l).1, 0) else (0, 16)
/-- the error of steps -/
def isWayE (h : Hall) (l : List Stp) : Int := if 200 < l.length then 6 else if l.any (oddS h) then 3 else 0
theorem src_in {h : Hall} (v : Valid h) {x : Stp} (o : okStp h x = true) : 0 ≤ src h x ∧ src h x ≤ h.n ∧ 0 ≤ dst h x ∧ dst h x ≤ h.n := by
  have := stpC_ok v o
  unfold src dst
  split <;> omega
def jstep (h : Hall) (out next : List Int) (x : Stp) : List Int :=
  if out.getD (src h x).toNat 0 < nowh then next.set (dst h x).toNat (min (next.getD (dst h x).toNat 0) (out.getD (src h x).toNat 0 + cost h x)) else next
def jfold (h : Hall) (out : List Int) (l : List Stp) : List Int := l.foldl (jstep h out) out
def jround (h : Hall) (out : List Int) : List Int := jfold h out (stps h)
def jrun (h : Hall) : Nat → List Int → List Int × Bool
  | 0, out => (out, false)
  | k + 1, out => if jround h out = out then (jround h out, true) else jrun h k (jround h out)
def jini (h : Hall) (start : Nat) : List Int := (List.replicate (h.n.toNat + 1) nowh).set start 0
def leastR (h : Hall) (start : Nat) : List Int × Bool := jrun h (h.n.toNat + 2) (jini h start)
/-- how far they can be by now -/
def JB (t : Int) (l : List Int) : Prop := ∀ x ∈ l, x = nowh ∨ (-(10000000 * t) ≤ x ∧ x ≤ 10000000 * t)
theorem JB.mono {t u : Int} {l : List Int} (h : JB t l) (htu : t ≤ u) : JB u l := fun x hx => by
  rcases h x hx with h | h
  · exact .inl h
  · right; omega
theorem jstep_len (h : Hall) (out next : List Int) (x : Stp) : (jstep h out next x).length = next.length := by unfold jstep; split <;> simp
theorem jfold_len (h : Hall) (out : List Int) : ∀ (l : List Stp) (next : List Int), (l.foldl (jstep h out) next).length = next.length
  | [], _ => rfl
  | x :: l, next => by rw [List.foldl_cons, jfold_len h out l, jstep_len]
theorem getD_lt {l : List Int} {i : Nat} (h : i < l.length) : l.getD i 0 = l[i] := by simp [List.getD, h]
theorem JB.jstep {h : Hall} (v : Valid h) {t : Int} (ht : 0 ≤ t) {out next : List Int} (ho : JB t out) (hn : JB (t + 1) next) {x : Stp} (o : okStp h x = true) (hs : (src h x).toNat < out.length) (hd : (dst h x).toNat < next.length) : JB (t + 1) (jstep h out next x) := by
  intro y hy
  have hc := cost_bd v o
  have hs' := ho _ (List.getElem_mem hs)
  rw [← getD_lt hs] at hs'
  have hd' := hn _ (List.getElem_mem hd)
  rw [← getD_lt hd] at hd'
  unfold Go.Proofs.Ytgcldgchhdjnhaa.jstep at hy
  by_cases hlt : out.getD (src h x).toNat 0 < nowh
  · rw [if_pos hlt] at hy
    rcases List.mem_or_eq_of_mem_set hy with hy | hy
    · exact hn y hy
    · right
      subst hy
      unfold nowh at *
      omega
  · rw [if_neg hlt] at hy
    exact hn y hy
theorem jfold_bd {h : Hall} (v : Valid h) {t : Int} (ht : 0 ≤ t) {out : List Int} (ho : JB t out) (hl : (out.length : Int) = h.n + 1) : ∀ (l : List Stp) (next : List Int), (∀ x ∈ l, okStp h x = true) → next.length = out.length → JB (t + 1) next → JB (t + 1) (l.foldl (jstep h out) next)
  | [], _, _, _, hn => hn
  | x :: l, next, hok, hlen, hn => by
    have o := hok x (by simp)
    have hin := src_in v o
    rw [List.foldl_cons]
    exact jfold_bd v ht ho hl l _ (fun y hy => hok y (by simp [hy])) (by rw [jstep_len]; exact hlen) (ho.jstep v ht hn o (by omega) (by omega))
theorem jround_bd {h : Hall} (v : Valid h) {t : Int} (ht : 0 ≤ t) {out : List Int} (ho : JB t out) (hl : (out.length : Int) = h.n + 1) : JB (t + 1) (jround h out) :=
  jfold_bd v ht ho hl (stps h) out (stps_ok v) rfl (ho.mono (by omega))
theorem jround_len (h : Hall) (out : List Int) : (jround h out).length = out.length := jfold_len h out _ _
theorem jrun_bd {h : Hall} (v : Valid h) : ∀ (k : Nat) (t : Int) (out : List Int), 0 ≤ t → JB t out → (out.length : Int) = h.n + 1 → JB (t + k) (jrun h k out).1 ∧ (jrun h k out).1.length = out.length
  | 0, t, out, _, ho, _ => ⟨by simpa [jrun] using ho, rfl⟩
  | k + 1, t, out, ht, ho, hl => by
    have h1 := jround_bd v ht ho hl
    have h2 := jround_len h out
    unfold jrun
    split
    · exact ⟨h1.mono (by omega), h2⟩
    · have := jrun_bd v k (t + 1) _ (by omega) h1 (by omega)
      refine ⟨this.1.mono (by omega), by rw [this.2, h2]⟩
theorem jini_bd {h : Hall} (start : Nat) : JB 0 (jini h start) := by
  intro x hx
  unfold jini at hx
  rcases List.mem_or_eq_of_mem_set hx with hx | hx
  · left; simpa using hx
  · right; omega
theorem leastR_len {h : Hall} (v : Valid h) (start : Nat) : ((leastR h start).1.length : Int) = h.n + 1 := by
  have n1 := v.n1
  have := (jrun_bd v (h.n.toNat + 2) 0 (jini h start) (by omega) (jini_bd start) (by simp [jini]; omega)).2
  unfold leastR
  rw [this]
  simp [jini]
  omega
theorem leastR_bd {h : Hall} (v : Valid h) (start : Nat) : ∀ x ∈ (leastR h start).1, -20000000000 ≤ x ∧ x ≤ 1099511627776 := by
  have n1 := v.n1
  have n10 := v.n10
  intro x hx
  have := (jrun_bd v (h.n.toNat + 2) 0 (jini h start) (by omega) (jini_bd start) (by simp [jini]; omega)).1 x hx
  unfold nowh at this
  omega
def spanER (h : Hall) (f t : Int) : Int := if chk h ≠ 0 then chk h else if f < 0 ∨ t < f ∨ h.n ≤ t then 2 else if (leastR h 0).2 then 0 else 5
def spanLoR (h : Hall) (f t : Int) : Int := if spanER h f t = 0 then -((leastR h (t.toNat + 1)).1.getD f.toNat 0) else 0
def spanHiR (h : Hall) (f t : Int) : Int := if spanER h f t = 0 then (leastR h f.toNat).1.getD (t.toNat + 1) 0 else 0
def truthErrR (h : Hall) : Int := if chk h ≠ 0 then chk h else if (leastR h 0).2 then 0 else 5
def wayErrR (h : Hall) (f t : Int) : Int := if openE h [f, t] ≠ 0 then openE h [f, t] else truthErrR h
def usesM (l : List Stp) (c : Int) : Bool := l.any fun x => !x.win && (x.idx == c)
/-- so many places back lies the place from which ways begin, and not before -/
def Chain (s : WSt) (start : Nat) : Nat → Nat → Prop
  | 0, a => a = start
  | k + 1, a => a ≠ start ∧ a < 11 ∧ 0 ≤ s.before a ∧ s.before a < 11 ∧ Chain s start k (s.before a).toNat
def backs (s : WSt) : Nat → Nat → List Stp
  | 0, _ => []
  | k + 1, a => s.by_ a :: backs s k (s.before a).toNat
def clen (s : WSt) (start : Nat) : Nat → Nat → Nat
  | 0, _ => 0
  | k + 1, a => if a = start then 0 else clen s start k (s.before a).toNat + 1
theorem clen_chain {s : WSt} {start : Nat} : ∀ {j a F : Nat}, Chain s start j a → j ≤ F → clen s start F a = j
  | 0, a, F, h, _ => by
    have h' : a = start := h
    cases F <;> simp [clen, h']
  | j + 1, a, 0, _, hF => by omega
  | j + 1, a, F + 1, h, hF => by
    obtain ⟨h1, _, _, _, h5⟩ := h
    simp only [clen, if_neg h1]
    rw [clen_chain h5 (by omega)]
theorem backs_len (s : WSt) : ∀ k a, (backs s k a).length = k
  | 0, _ => rfl
  | k + 1, a => by simp [backs, backs_len s k]
def itB (s : WSt) : Nat → Nat → Nat
  | 0, a => a
  | k + 1, a => itB s k (s.before a).toNat
theorem itB_succ (s : WSt) : ∀ k a, itB s (k + 1) a = (s.before (itB s k a)).toNat
  | 0, _ => rfl
  | k + 1, a => by rw [itB, itB_succ s k, itB]
/-- the places before are places -/
def BefIn (s : WSt) : Prop := ∀ i, i < 11 → 0 ≤ s.before i ∧ s.before i < 11
theorem itB_lt {s : WSt} (h : BefIn s) : ∀ {k a : Nat}, a < 11 → itB s k a < 11
  | 0, _, ha => ha
  | k + 1, a, ha => by rw [itB]; exact itB_lt h (by have := h a ha; omega)
/-- the place of the ring that is come to first, and the steps round the ring, from there back -/
def ringAt (s : WSt) : Nat := itB s 11 s.ringed.toNat
def ringBack (s : WSt) (K : Nat) : List Stp := s.by_ (ringAt s) :: backs s K (s.before (ringAt s)).toNat
def mark (a : Nat → Int) (i : Int) : List Stp → Option (Nat → Int)
  | [] => some a
  | x :: l => if x.win then mark a i l else if 0 < a x.idx.toNat ∧ a x.idx.toNat ≠ i + 1 then none else mark (upd a x.idx.toNat (i + 1)) i l
def marks (a : Nat → Int) (i : Int) : List (List Stp) → Bool
  | [] => true
  | r :: rs => match mark a i r with | none => false | some a' => marks a' (i + 1) rs
def ringsErr (h : Hall) (ll : List (List Stp)) : Int :=
  if chk h ≠ 0 then chk h else if 20 < ll.length ∨ ll.any (fun r => decide (200 < r.length)) = true then 6 else if ll.any (fun r => r.any (oddS h)) then 3
  else if ll.any (fun r => !isRingM h r) then 16 else if marks (fun _ => 0) 0 ll then 0 else 14
def ringsN (h : Hall) (ll : List (List Stp)) : Int := if ringsErr h ll = 0 then ll.length else 0
theorem mark_drop {a : Nat → Int} {i : Int} {l : List Stp} {k : Nat} (hk : k < l.length) : mark a i (l.drop k) = if l[k].win then mark a i (l.drop (k + 1)) else if 0 < a l[k].idx.toNat ∧ a l[k].idx.toNat ≠ i + 1 then none else mark (upd a l[k].idx.toNat (i + 1)) i (l.drop (k + 1)) := by
  rw [List.drop_eq_getElem_cons hk, mark]
theorem marks_drop {a : Nat → Int} {i : Int} {ll : List (List Stp)} {k : Nat} (hk : k < ll.length) : marks a i (ll.drop k) = match mark a i ll[k] with | none => false | some a' => marks a' (i + 1) (ll.drop (k + 1)) := by
  rw [List.drop_eq_getElem_cons hk, marks]
theorem ringsErr_chk {h : Hall} {ll : List (List Stp)} (hc : ¬ chk h = 0) : ringsErr h ll = chk h := by unfold ringsErr; rw [if_pos hc]
def usedBy (ll : List (List Stp)) (c : Nat) : Nat := ll.countP fun r => usesM r c
def ringsErrR (h : Hall) (ll : List (List Stp)) : Int :=
  if chk h ≠ 0 then chk h else if 20 < ll.length ∨ ll.any (fun r => decide (200 < r.length)) = true then 6 else if ll.any (fun r => r.any (oddS h)) then 3
  else if ll.any (fun r => !isRingM h r) then 16 else if (List.range h.cs.length).any (fun c => decide (1 < usedBy ll c)) then 14 else 0
def ringsNR (h : Hall) (ll : List (List Stp)) : Int := if ringsErrR h ll = 0 then ll.length else 0
theorem any_map2 {α β : Type} (ps : List (α × β)) (p : β → Bool) : (ps.map (·.2)).any p = ps.any (fun x => p x.2) := by rw [List.any_map]; rfl
theorem countP_take {α : Type} (p : α → Bool) (l : List α) (k : Nat) (hk : k < l.length) : (l.take (k + 1)).countP p = (l.take k).countP p + (if p l[k] then 1 else 0) := by
  rw [List.take_succ_eq_append_getElem hk, List.countP_append]
  simp [List.countP_cons]
theorem isWayE_eq {h : Hall} {l : List Stp} (h200 : l.length ≤ 200) : isWayE h l = if l.any (oddS h) then 3 else 0 := by
  unfold isWayE; rw [if_neg (by omega)]
def spanE (h : Hall) (f t : Int) : Int := if chk h ≠ 0 then chk h else if f < 0 ∨ t < f ∨ h.n ≤ t then 2 else if (leastM h f.toNat).2 then 0 else 5
def spanLo (h : Hall) (f t : Int) : Int := if spanE h f t = 0 then -((leastM h (t.toNat + 1)).1.sums f.toNat) else 0
def spanHi (h : Hall) (f t : Int) : Int := if spanE h f t = 0 then (leastM h f.toNat).1.sums (t.toNat + 1) else 0
def truthErr (h : Hall) : Int := if chk h ≠ 0 then chk h else if (leastM h 0).2 then 0 else 5
def truthM (h : Hall) : List Int := (List.range h.n.toNat).map fun j => (leastM h 0).1.sums (j + 1) - (leastM h 0).1.sums j
def truthL (h : Hall) : List Int := if truthErr h = 0 then truthM h else []
/-- the sum of the numbers from one index to another one -/
def sm (t : List Int) (f to : Int) : Int := ((t.drop f.toNat).take (to + 1 - f).toNat).sum
def offC (t : List Int) (c : Cnt) : Bool := !(inR c.lo c.hi (sm t c.f c.t))
/-- the error of numbers -/
def truthE (h : Hall) (t : List Int) : Int :=
  if chk h ≠ 0 then chk h else if (t.length : Int) ≠ h.n then 15 else if t.all (inR 0 h.most) = false then 3 else if h.cs.any (offC t) then 14 else 0
theorem sum_take_succ (l : List Int) (k : Nat) (hk : k < l.length) : (l.take (k + 1)).sum = (l.take k).sum + l[k] := by
  rw [List.take_succ_eq_append_getElem hk, List.sum_append]; simp
theorem sum_bd (l : List Int) (m : Int) (h : ∀ x ∈ l, 0 ≤ x ∧ x ≤ m) : 0 ≤ l.sum ∧ l.sum ≤ m * l.length := by
  induction l with
  | nil => simp
  | cons a l ih =>
    have h1 := h a (by simp)
    have h2 := ih fun x hx => h x (by simp [hx])
    simp only [List.sum_cons, List.length_cons]
    have e : m * ((l.length + 1 : Nat) : Int) = m * l.length + m := by
      rw [show ((l.length + 1 : Nat) : Int) = (l.length : Int) + 1 from by simp, Int.mul_add, Int.mul_one]
    omega
def wayErr (h : Hall) (f t : Int) : Int := if openE h [f, t] ≠ 0 then openE h [f, t] else if (leastM h f.toNat).2 then 0 else 5
def ringErr (h : Hall) : Int := if chk h ≠ 0 then chk h else if (leastM h 0).2 then 11 else 0
theorem open_places {h : Hall} {f t : Int} (e : openE h [f, t] = 0) : chk h = 0 ∧ 0 ≤ f ∧ f ≤ h.n ∧ 0 ≤ t ∧ t ≤ h.n := by
  unfold openE at e
  by_cases hc : chk h = 0
  · refine ⟨hc, ?_⟩
    rw [if_neg (by simpa using hc)] at e
    have : ¬ ([f, t].any (oddP h.n) = true) := fun hh => by rw [if_pos hh] at e; omega
    simp [oddP] at this
    omega
  · rw [if_pos hc] at e
    exact absurd e hc
/-- going back from the place that was bettered last comes into a ring -/
def RingOk (s : WSt) : Prop := BefIn s ∧ 0 ≤ s.ringed ∧ s.ringed < 11 ∧ ∃ K, K ≤ 1000 ∧ Chain s (ringAt s) K (s.before (ringAt s)).toNat
end Go.Proofs.Ytgcldgchhdjnhaa
