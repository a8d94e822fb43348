/-
 Plain: bets in another order, and two bets made one: all sums stay, so do dividends and the account.
-/
import Derived.Test.YtphajlldghcnnaaPy
namespace Go.Proofs.Ytphajlldghcnnaa
/-- what a bet adds: its units' share -/
def Lin (g : PB → Int) : Prop := ∀ f s u v, g ⟨f, s, u + v⟩ = g ⟨f, s, u⟩ + g ⟨f, s, v⟩
def setB (b : Bk) (l : List PB) : Bk := { b with bets := l }
def SameSum (l m : List PB) : Prop := ∀ g, Lin g → sumB g l = sumB g m
theorem lin_onF (b : Bk) (r : Int) : Lin (onF b r) := fun f s u v => by
 unfold onF
 simp only
 split <;> simp
theorem lin_units (b : Bk) (s : Spt) : Lin (unitsG b s) := fun f t u v => by
 have h1 : onP b ⟨f, t, u + v⟩ = onP b ⟨f, t, u⟩ := rfl
 have h2 : onP b ⟨f, t, v⟩ = onP b ⟨f, t, u⟩ := rfl
 unfold unitsG
 rw [h1, h2]
 split <;> simp
theorem lin_back (b : Bk) : Lin (backG b) := fun f t u v => by
 have h1 : onP b ⟨f, t, u + v⟩ = onP b ⟨f, t, u⟩ := rfl
 have h2 : onP b ⟨f, t, v⟩ = onP b ⟨f, t, u⟩ := rfl
 unfold backG
 rw [h1, h2]
 split
 ·simp only; omega
 ·simp
theorem lin_in : Lin fun x => 100 * x.u := fun f t u v => by simp only; omega
section
variable {b : Bk} {l : List PB} (h : SameSum l b.bets)
include h
theorem set_sums : sumsP (setB b l) = sumsP b := funext fun r => h (onF b r) (lin_onF b r)
theorem set_fav : favP (setB b l) = favP b := by
 unfold favP
 rw [set_sums h]
 rfl
theorem setB_on (x : PB) : onP (setB b l) x = onP b x := by
 unfold onP
 rw [set_fav h]
 rfl
theorem set_units : unitsP (setB b l) = unitsP b := funext fun s => by
 have e : unitsG (setB b l) s = unitsG b s := funext fun x => by unfold unitsG; rw [setB_on h]
 unfold unitsP
 rw [e]
 exact h _ (lin_units b s)
theorem set_back : backP (setB b l) = backP b := by
 have e : backG (setB b l) = backG b := funext fun x => by unfold backG; rw [setB_on h]
 unfold backP
 rw [e]
 exact h _ (lin_back b)
theorem set_in : inP (setB b l) = inP b := by
 unfold inP
 show b.car + sumB _ l = _
 rw [h _ lin_in]
theorem set_all (fs : List (List Int)) : divP (setB b l) fs = divP b fs ∧ accA (setB b l) fs = accA b fs := by
 have hu := set_units h
 have hi := set_in h
 have hk := set_back h
 have hd : dutyP (setB b l) = dutyP b := by unfold dutyP; rw [hi, hk]; rfl
 have hn : netP (setB b l) = netP b := by unfold netP; rw [hi, hk, hd]
 have hw : winsP (setB b l) fs = winsP b fs := rfl
 have hb : backedL (setB b l) fs = backedL b fs := by unfold backedL; rw [hu, hw]
 have hs : shareP (setB b l) fs = shareP b fs := by unfold shareP; rw [hn, hb]
 have hp : penceP (setB b l) fs = penceP b fs := funext fun s => by unfold penceP; rw [hs, hu]; rfl
 have hv : divP (setB b l) fs = divP b fs := by unfold divP; rw [hb, hp]
 refine ⟨hv, ?_⟩
 unfold accA netA paidP
 rw [hi, hk, hd, hn, hv, hu]
end
/-- the bets from the k-th one on, then those before it -/
def rotB (l : List PB) (k : Nat) : List PB := l.drop k ++ l.take k
theorem rot_sum (l : List PB) (k : Nat) : SameSum (rotB l k) l := fun g _ => by
 unfold rotB
 rw [sumB_app, Int.add_comm, ← sumB_app, List.take_append_drop]
theorem rot_val {b : Bk} (v : BVal b) (k : Nat) : BVal (setB b (rotB b.bets k)) := by
 refine ⟨v.kd, v.n, v.car, v.duty, v.step, ?_, fun x hx => v.odd x ?_, v.left, v.scr, v.inc⟩
 ·have : (rotB b.bets k).length = b.bets.length := by unfold rotB; rw [List.length_append, List.length_drop, List.length_take]; omega
  show (rotB b.bets k).length ≤ 100
  rw [this]; exact v.many
 ·have hx : x ∈ rotB b.bets k := hx
  unfold rotB at hx
  rcases List.mem_append.1 hx with hx | hx
  ·exact List.mem_of_mem_drop hx
  ·exact List.mem_of_mem_take hx
def betN (l : List PB) (i : Nat) : PB := l.getD i ⟨0, 0, 0⟩
theorem betN_get {l : List PB} {i : Nat} (h : i < l.length) : betN l i = l[i] := by
 unfold betN
 rw [List.getD_eq_getElem?_getD, List.getElem?_eq_getElem h]; rfl
/-- the i-th bet, with the units of the j-th one if it is the k-th -/
def joinE (l : List PB) (i j k : Nat) : PB := ⟨(betN l k).f, (betN l k).s, if k = i then (betN l k).u + (betN l j).u else (betN l k).u⟩
def joinTo (l : List PB) (i j : Nat) : Nat → List PB
 | 0 => []
 | k + 1 => joinTo l i j k ++ if k = j then [] else [joinE l i j k]
theorem joinTo_len (l : List PB) (i j : Nat) : ∀ k, (joinTo l i j k).length ≤ k
 | 0 => Nat.le_refl _
 | k + 1 => by
  have := joinTo_len l i j k
  unfold joinTo
  rw [List.length_append]
  split <;> simp <;> omega
theorem joinTo_mem {l : List PB} {i j : Nat} {x : PB} : ∀ {k}, x ∈ joinTo l i j k → ∃ m, m < k ∧ m ≠ j ∧ x = joinE l i j m
 | 0, h => by cases h
 | k + 1, h => by
  unfold joinTo at h
  rcases List.mem_append.1 h with h | h
  ·obtain ⟨m, h1, h2, h3⟩ := joinTo_mem h
   exact ⟨m, by omega, h2, h3⟩
  ·split at h
   ·cases h
   ·rename_i hk
    simp only [List.mem_singleton] at h
    exact ⟨k, by omega, hk, h⟩
theorem join_part {l : List PB} {i j : Nat} (hi : i < l.length) (hj : j < l.length) (hij : i ≠ j) (hf : l[i].f = l[j].f) (hs : l[i].s = l[j].s) (g : PB → Int) (hg : Lin g) :
  ∀ k, k ≤ l.length → sumB g (joinTo l i j k) = sumB g (l.take k) + (if i < k then g l[j] else 0) - (if j < k then g l[j] else 0)
 | 0, _ => by simp [joinTo, sumB]
 | k + 1, hk => by
  have ih := join_part hi hj hij hf hs g hg k (by omega)
  have hkl : k < l.length := by omega
  have hb : betN l k = l[k] := betN_get hkl
  have hbj : betN l j = l[j] := betN_get hj
  unfold joinTo
  rw [sumB_app, ih, sumB_take g hkl]
  by_cases hkj : k = j
  ·subst hkj
   rw [if_pos rfl, if_neg (show ¬ k < k by omega), if_pos (show k < k + 1 by omega)]
   simp only [sumB]
   by_cases h1 : i < k
   ·rw [if_pos h1, if_pos (show i < k + 1 by omega)]; omega
   ·rw [if_neg h1, if_neg (show ¬ i < k + 1 by omega)]; omega
  ·rw [if_neg hkj]
   have hjk : (if j < k + 1 then g l[j] else 0) = if j < k then g l[j] else 0 := by
    by_cases h1 : j < k
    ·rw [if_pos h1, if_pos (by omega)]
    ·rw [if_neg h1, if_neg (by omega)]
   rw [hjk]
   by_cases hki : k = i
   ·subst hki
    rw [if_neg (show ¬ k < k by omega), if_pos (show k < k + 1 by omega)]
    have e : joinE l k j k = ⟨l[k].f, l[k].s, l[k].u + l[j].u⟩ := by
     unfold joinE
     rw [hb, hbj, if_pos rfl]
    have e2 : g ⟨l[k].f, l[k].s, l[k].u + l[j].u⟩ = g l[k] + g l[j] := by
     rw [hg]
     congr 1
     rw [hf, hs]
    simp only [sumB]
    rw [e, e2]
    omega
   ·have e : joinE l i j k = l[k] := by
     unfold joinE
     rw [hb, if_neg hki]
    have hik : (if i < k + 1 then g l[j] else 0) = if i < k then g l[j] else 0 := by
     by_cases h1 : i < k
     ·rw [if_pos h1, if_pos (by omega)]
     ·rw [if_neg h1, if_neg (by omega)]
    simp only [sumB]
    rw [e, hik]
    omega
theorem join_sum {l : List PB} {i j : Nat} (hi : i < l.length) (hj : j < l.length) (hij : i ≠ j) (hf : l[i].f = l[j].f) (hs : l[i].s = l[j].s) : SameSum (joinTo l i j l.length) l := fun g hg => by
 rw [join_part hi hj hij hf hs g hg l.length (Nat.le_refl _), List.take_length, if_pos hi, if_pos hj]
 omega
theorem join_val {b : Bk} (v : BVal b) {i j : Nat} (hi : i < b.bets.length) (hj : j < b.bets.length) (hu : b.bets[i].u + b.bets[j].u ≤ 1000) : BVal (setB b (joinTo b.bets i j b.bets.length)) := by
 refine ⟨v.kd, v.n, v.car, v.duty, v.step, ?_, fun x hx => ?_, v.left, v.scr, v.inc⟩
 ·exact Nat.le_trans (joinTo_len _ _ _ _) v.many
 ·have hx : x ∈ joinTo b.bets i j b.bets.length := hx
  obtain ⟨m, hm, -, rfl⟩ := joinTo_mem hx
  have ho := v.odd b.bets[m] (List.getElem_mem hm)
  have hb := (v.bet (List.getElem_mem hm)).1
  have hbj := (v.bet (List.getElem_mem hj)).1
  show oddB b _ = false
  have e : betN b.bets m = b.bets[m] := betN_get hm
  have ej : betN b.bets j = b.bets[j] := betN_get hj
  unfold joinE
  rw [e, ej]
  have hin : inR 1 1000 (if m = i then b.bets[m].u + b.bets[j].u else b.bets[m].u) = true := by
   rw [inR_iff]
   split
   ·rename_i h; subst h; omega
   ·exact hb
  unfold oddB at ho ⊢
  simp only
  rw [hin]
  rw [inR_iff.2 hb] at ho
  exact ho
end Go.Proofs.Ytphajlldghcnnaa
