/-
 Plain: the reference's ways, by digits to base three, are the program's finishes.
-/
import Derived.Test.YtphajlldghcnnaaPz
namespace Go.Proofs.Ytphajlldghcnnaa
def digW (way i : Nat) : Nat := way / 3 ^ i % 3
theorem digW_lt (way i : Nat) : digW way i < 3 := Nat.mod_lt _ (by omega)
/-- the k-th group, of the first m runners -/
def grpR (L : List Int) (q : Nat → Nat) (k m : Nat) : List Int := ((List.range m).filter fun i => decide (q i = k)).map fun i => gt L i
theorem grpR_all (L : List Int) (q : Nat → Nat) (k : Nat) : grpR L q k L.length = grpQ L q k := rfl
theorem grpR_succ (L : List Int) (q : Nat → Nat) (k m : Nat) : grpR L q k (m + 1) = grpR L q k m ++ if q m = k then [gt L m] else [] := by
 unfold grpR
 rw [List.range_succ, List.filter_append, List.map_append]
 congr 1
 by_cases h : q m = k <;> simp [h]
theorem grpR_len (L : List Int) (q : Nat → Nat) (k m : Nat) : (grpR L q k m).length ≤ m := by
 unfold grpR
 rw [List.length_map]
 exact Nat.le_trans (List.length_filter_le _ _) (by simp)
theorem grpR_step (L : List Int) (q : Nat → Nat) (m : Nat) {j : Nat} (h : q m = j) : upd (fun k => grpR L q k m) j (grpR L q j m ++ [gt L m]) = fun k => grpR L q k (m + 1) := by
 funext k
 unfold upd
 rw [grpR_succ]
 by_cases e : k = j
 ·subst e; rw [if_pos rfl, if_pos h]
 ·rw [if_neg e, if_neg (fun e2 => e (e2.symm.trans h)), List.append_nil]
/-- is a way kept? -/
def keptQ (L : List Int) (q : Nat → Nat) : Bool := !(grpQ L q 0).isEmpty && !((grpQ L q 1).isEmpty && !(grpQ L q 2).isEmpty)
theorem grpQ_nil {L : List Int} {q : Nat → Nat} {k : Nat} : (grpQ L q k).isEmpty = true ↔ ∀ i, i < L.length → q i ≠ k := by
 rw [List.isEmpty_iff]
 constructor
 ·intro h i hi e
  have := grpQ_mem.2 ⟨i, hi, e, rfl⟩
  rw [h] at this
  cases this
 ·intro h
  rw [List.eq_nil_iff_forall_not_mem]
  intro x hx
  obtain ⟨i, hi, e, -⟩ := grpQ_mem.1 hx
  exact h i hi e
theorem kept_iff {L : List Int} {q : Nat → Nat} (hq : ∀ i, q i < 3) : keptQ L q = true ↔ OkQ L q := by
 unfold keptQ
 rw [Bool.and_eq_true, Bool.not_eq_true', Bool.not_eq_true', Bool.eq_false_iff, Bool.eq_false_iff, Ne, Ne, Bool.and_eq_true, Bool.not_eq_true', Bool.eq_false_iff, Ne, grpQ_nil, grpQ_nil, grpQ_nil]
 constructor
 ·rintro ⟨h1, h2⟩
  refine ⟨fun i _ => by have := hq i; omega, ?_, ?_⟩
  ·apply Classical.byContradiction
   intro h
   exact h1 fun i hi e => h ⟨i, hi, e⟩
  ·by_cases h3 : ∃ i, i < L.length ∧ q i = 1
   ·exact .inl h3
   ·refine .inr fun i hi => ?_
    have h4 : ∀ i, i < L.length → q i ≠ 1 := fun i hi e => h3 ⟨i, hi, e⟩
    have h5 : ∀ i, i < L.length → q i ≠ 2 := by
     apply Classical.byContradiction
     intro h
     exact h2 ⟨h4, h⟩
    have := hq i
    have := h4 i hi
    have := h5 i hi
    omega
 ·rintro ⟨-, ⟨i, hi, h1⟩, h2⟩
  refine ⟨fun h => h i hi h1, ?_⟩
  rintro ⟨h3, h4⟩
  rcases h2 with ⟨k, hk, h5⟩ | h5
  ·exact h3 k hk h5
  ·exact h4 fun k hk e => by have := h5 k hk; omega
/-- the finishes of the ways below m -/
def waysTo (L : List Int) (m : Nat) : List (List (List Int)) := ((List.range m).filter fun way => keptQ L (digW way)).map fun way => finQ L (digW way)
theorem waysTo_succ (L : List Int) (m : Nat) : waysTo L (m + 1) = waysTo L m ++ if keptQ L (digW m) = true then [finQ L (digW m)] else [] := by
 unfold waysTo
 rw [List.range_succ, List.filter_append, List.map_append]
 congr 1
 by_cases h : keptQ L (digW m) = true <;> simp [h]
/-- a number by its digits -/
def baseN (q : Nat → Nat) : Nat → Nat
 | 0 => 0
 | n + 1 => baseN q n + q n * 3 ^ n
theorem baseN_lt {q : Nat → Nat} : ∀ n, (∀ i, i < n → q i ≤ 2) → baseN q n < 3 ^ n
 | 0, _ => by simp [baseN]
 | n + 1, h => by
  have h1 := baseN_lt n fun i hi => h i (by omega)
  have h2 := h n (by omega)
  have h3 : q n * 3 ^ n ≤ 2 * 3 ^ n := Nat.mul_le_mul_right _ h2
  rw [baseN, Nat.pow_succ]
  omega
theorem baseN_dig {q : Nat → Nat} : ∀ n, (∀ i, i < n → q i ≤ 2) → ∀ i, i < n → digW (baseN q n) i = q i
 | 0, _, _, hi => by omega
 | n + 1, h, i, hi => by
  have h1 := baseN_lt n fun i hi => h i (by omega)
  have hp : 0 < 3 ^ i := Nat.pow_pos (by omega)
  unfold digW
  rw [baseN]
  by_cases e : i = n
  ·subst e
   rw [Nat.add_mul_div_right _ _ hp, Nat.div_eq_of_lt h1, Nat.zero_add]
   exact Nat.mod_eq_of_lt (by have := h i (by omega); omega)
  ·have h2 : i < n := by omega
   have ih := baseN_dig n (fun i hi => h i (by omega)) i h2
   obtain ⟨d, hd⟩ : ∃ d, n = i + (d + 1) := ⟨n - i - 1, by omega⟩
   have h3 : q n * 3 ^ n = q n * 3 ^ d * 3 * 3 ^ i := by
    rw [hd, Nat.pow_add, Nat.pow_succ]
    generalize q (i + (d + 1)) = x
    generalize 3 ^ i = y
    generalize 3 ^ d = z
    rw [Nat.mul_comm y (z * 3), ← Nat.mul_assoc, ← Nat.mul_assoc]
   rw [h3, Nat.add_mul_div_right _ _ hp, Nat.add_mul_mod_self_right]
   exact ih
theorem ways_mem {L : List Int} (hL : 1 ≤ L.length) (fs : List (List Int)) : fs ∈ waysTo L (3 ^ L.length) ↔ fs ∈ finsAll L := by
 unfold waysTo
 rw [List.mem_map]
 constructor
 ·rintro ⟨way, hw, rfl⟩
  exact finQ_mem ((kept_iff fun i => digW_lt way i).1 (List.mem_filter.1 hw).2)
 ·intro h
  obtain ⟨q, hq, rfl⟩ := mem_finsAll hL h
  have h1 : ∀ i, i < L.length → digW (baseN q L.length) i = q i := baseN_dig _ hq.le
  have h2 : OkQ L (digW (baseN q L.length)) := by
   refine ⟨fun i _ => by have := digW_lt (baseN q L.length) i; omega, ?_, ?_⟩
   ·obtain ⟨i, hi, e⟩ := hq.one
    exact ⟨i, hi, by rw [h1 i hi]; exact e⟩
   ·rcases hq.two with ⟨i, hi, e⟩ | h
    ·exact .inl ⟨i, hi, by rw [h1 i hi]; exact e⟩
    ·exact .inr fun i hi => by rw [h1 i hi]; exact h i hi
  exact ⟨baseN q L.length, List.mem_filter.2 ⟨List.mem_range.2 (baseN_lt _ hq.le), (kept_iff fun i => digW_lt _ i).2 h2⟩, finQ_congr h1⟩
/-- what is paid for the ways below m -/
def waysP (b : Bk) (m : Nat) : List Int := (waysTo (runL b) m).map fun fs => (accA b fs).p
theorem waysP_succ (b : Bk) (m : Nat) : waysP b (m + 1) = waysP b m ++ if keptQ (runL b) (digW m) = true then [(accA b (finQ (runL b) (digW m))).p] else [] := by
 unfold waysP
 rw [waysTo_succ, List.map_append]
 congr 1
 split <;> simp
theorem ways_spr {b : Bk} (v : BVal b) : waysP b (3 ^ (runL b).length) ≠ [] ∧ minP (waysP b (3 ^ (runL b).length)) = minP (sprL b) ∧ maxP (waysP b (3 ^ (runL b).length)) = maxP (sprL b) := by
 have hL : 1 ≤ (runL b).length := by have := runL_two v; omega
 have hm : ∀ x, x ∈ waysP b (3 ^ (runL b).length) ↔ x ∈ sprL b := fun x => by
  unfold waysP sprL
  rw [List.mem_map, List.mem_map]
  constructor
  ·rintro ⟨fs, h, e⟩; exact ⟨fs, (ways_mem hL fs).1 h, e⟩
  ·rintro ⟨fs, h, e⟩; exact ⟨fs, (ways_mem hL fs).2 h, e⟩
 have hs := sprL_ne v
 have hn : waysP b (3 ^ (runL b).length) ≠ [] := by
  intro e
  have := (hm _).2 (gt0_mem hs)
  rw [e] at this
  cases this
 have a1 := minP_spec hn
 have a2 := minP_spec hs
 have b1 := maxP_spec hn
 have b2 := maxP_spec hs
 refine ⟨hn, ?_, ?_⟩
 ·have c1 := a1.2 _ ((hm _).2 a2.1)
  have c2 := a2.2 _ ((hm _).1 a1.1)
  omega
 ·have c1 := b1.2 _ ((hm _).2 b2.1)
  have c2 := b2.2 _ ((hm _).1 b1.1)
  omega
/-- the least and the greatest of some, 0 of none -/
def loS (S : List Int) : Int := if S = [] then 0 else minP S
def hiS (S : List Int) : Int := if S = [] then 0 else maxP S
theorem lo_snoc (S : List Int) (n : Int) : loS (S ++ [n]) = if S = [] then n else min (loS S) n := by
 unfold loS
 rw [if_neg (by simp)]
 by_cases h : S = []
 ·subst h; rw [if_pos rfl]; unfold minP gt; simp
 ·rw [if_neg h, if_neg h]
  have hg : gt (S ++ [n]) 0 = gt S 0 := by
   unfold gt
   cases S with
   | nil => exact absurd rfl h
   | cons a l => rfl
  unfold minP
  rw [hg, List.foldl_append]; rfl
theorem hi_snoc (S : List Int) (n : Int) : hiS (S ++ [n]) = if S = [] then n else max (hiS S) n := by
 unfold hiS
 rw [if_neg (by simp)]
 by_cases h : S = []
 ·subst h; rw [if_pos rfl]; unfold maxP gt; simp
 ·rw [if_neg h, if_neg h]
  have hg : gt (S ++ [n]) 0 = gt S 0 := by
   unfold gt
   cases S with
   | nil => exact absurd rfl h
   | cons a l => rfl
  unfold maxP
  rw [hg, List.foldl_append]; rfl
theorem finQ_val {b : Bk} (v : BVal b) {q : Nat → Nat} (h : OkQ (runL b) q) : FinV b (finQ (runL b) q) := finsAll_val v (finQ_mem h)
/-- what is cut off at the end is empty -/
theorem finQ_cut {L : List Int} {q : Nat → Nat} (h : keptQ L q = true) : finQ L q = if (grpQ L q 2).isEmpty = true then (if (grpQ L q 1).isEmpty = true then [grpQ L q 0] else [grpQ L q 0, grpQ L q 1]) else [grpQ L q 0, grpQ L q 1, grpQ L q 2] := by
 unfold keptQ at h
 unfold finQ
 simp only [List.filter_cons, List.filter_nil]
 cases h0 : (grpQ L q 0).isEmpty <;> cases h1 : (grpQ L q 1).isEmpty <;> cases h2 : (grpQ L q 2).isEmpty <;> rw [h0, h1, h2] at h <;> simp at h ⊢
end Go.Proofs.Ytphajlldghcnnaa
