/-
 Plain: what is paid for a finish depends on its first two groups alone; and each finish is, as far as these go, among those that come up.
-/
import Derived.Test.YtphajlldghcnnaaPy
import Derived.Test.YtphajlldghcnnaaPl
import Derived.Test.YtphajlldghcnnaaPs
namespace Go.Proofs.Ytphajlldghcnnaa
theorem take_take2 (fs : List (List Int)) (b : Bk) : (fs.take 2).take (grp b fs) = fs.take (grp b fs) := by
 rw [List.take_take]
 congr 1
 unfold grp; split <;> rfl
theorem head_take2 (fs : List (List Int)) : (fs.take 2).headD [] = fs.headD [] := by
 cases fs <;> rfl
theorem wins_take2 (b : Bk) (fs : List (List Int)) : winsP b (fs.take 2) = winsP b fs := by
 have hg : grp b (fs.take 2) = grp b fs := by unfold grp; rw [head_take2]
 have hf : firstsP (fs.take 2) (grp b fs) = firstsP fs (grp b fs) := by unfold firstsP; rw [take_take2]
 have hp : pairP b (fs.take 2) = pairP b fs := by funext a c; unfold pairP; rw [head_take2]
 have hw : winsAt b (fs.take 2) = winsAt b fs := by funext l a; unfold winsAt; rw [hp]
 unfold winsP
 rw [hg, hf, hw]
theorem acc_wins {b : Bk} {fs gs : List (List Int)} (h : winsP b fs = winsP b gs) : accA b fs = accA b gs := by
 have hb : backedL b fs = backedL b gs := by unfold backedL; rw [h]
 have hs : shareP b fs = shareP b gs := by unfold shareP; rw [hb]
 have hp : penceP b fs = penceP b gs := by funext s; unfold penceP; rw [hs]
 have hd : divP b fs = divP b gs := by unfold divP; rw [hb, hp]
 unfold accA paidP
 rw [hd]
theorem acc_take2 {b : Bk} {fs gs : List (List Int)} (h : fs.take 2 = gs.take 2) : accA b fs = accA b gs :=
 acc_wins (by rw [← wins_take2 b fs, ← wins_take2 b gs, h])
/-- a number by its bits -/
def bitsN (p : Nat → Bool) : Nat → Nat
 | 0 => 0
 | n + 1 => bitsN p n ||| (if p n then 2 ^ n else 0)
theorem bitsN_lt (p : Nat → Bool) : ∀ n, bitsN p n < 2 ^ n
 | 0 => by simp [bitsN]
 | n + 1 => by
  have h := bitsN_lt p n
  have h1 : (2 : Nat) ^ n < 2 ^ (n + 1) := Nat.pow_lt_pow_right (by omega) (by omega)
  unfold bitsN
  refine Nat.or_lt_two_pow (by omega) ?_
  split
  ·exact h1
  ·exact Nat.two_pow_pos _
theorem bitsN_test (p : Nat → Bool) : ∀ n i, (bitsN p n).testBit i = (decide (i < n) && p i)
 | 0, i => by simp [bitsN]
 | n + 1, i => by
  unfold bitsN
  rw [Nat.testBit_or, bitsN_test p n i]
  by_cases h : i = n
  ·subst h
   cases hp : p i
   ·simp
   ·simp [Nat.testBit_two_pow_self]
  ·have h2 : (if p n = true then 2 ^ n else 0).testBit i = false := by
    split
    ·rw [Nat.testBit_two_pow]; simp; omega
    ·simp
   rw [h2, Bool.or_false]
   have : decide (i < n) = decide (i < n + 1) := by rw [decide_eq_decide]; omega
   rw [this]
/-- the groups into which runners are put -/
def grpQ (L : List Int) (q : Nat → Nat) (k : Nat) : List Int := ((List.range L.length).filter fun i => decide (q i = k)).map fun i => gt L i
def finQ (L : List Int) (q : Nat → Nat) : List (List Int) := [grpQ L q 0, grpQ L q 1, grpQ L q 2].filter fun g => !g.isEmpty
/-- such groups come up: someone is first; if nobody is second, all are first -/
structure OkQ (L : List Int) (q : Nat → Nat) : Prop where
 le : ∀ i, i < L.length → q i ≤ 2
 one : ∃ i, i < L.length ∧ q i = 0
 two : (∃ i, i < L.length ∧ q i = 1) ∨ ∀ i, i < L.length → q i = 0
theorem grpQ_congr {L : List Int} {q r : Nat → Nat} (h : ∀ i, i < L.length → q i = r i) (k : Nat) : grpQ L q k = grpQ L r k := by
 unfold grpQ
 congr 1
 exact List.filter_congr fun i hi => by rw [h i (List.mem_range.1 hi)]
theorem finQ_congr {L : List Int} {q r : Nat → Nat} (h : ∀ i, i < L.length → q i = r i) : finQ L q = finQ L r := by
 unfold finQ
 rw [grpQ_congr h, grpQ_congr h, grpQ_congr h]
theorem finsK_Q (L : List Int) (f s : Nat) : finsK L f s = finQ L (partV f s) := rfl
theorem finQ_mem {L : List Int} {q : Nat → Nat} (h : OkQ L q) : finQ L q ∈ finsAll L := by
 obtain ⟨f, hf⟩ : ∃ f, f = bitsN (fun i => decide (q i = 0)) L.length := ⟨_, rfl⟩
 obtain ⟨s, hs⟩ : ∃ s, s = bitsN (fun i => decide (q i = 1)) L.length := ⟨_, rfl⟩
 have tf : ∀ i, f.testBit i = (decide (i < L.length) && decide (q i = 0)) := fun i => by rw [hf]; exact bitsN_test _ _ _
 have ts : ∀ i, s.testBit i = (decide (i < L.length) && decide (q i = 1)) := fun i => by rw [hs]; exact bitsN_test _ _ _
 have e : finQ L q = finsK L f s := by
  rw [finsK_Q]
  refine finQ_congr fun i hi => ?_
  have h2 := h.le i hi
  unfold partV
  rw [tf, ts]
  simp only [hi, decide_true, Bool.true_and, decide_eq_true_eq]
  split
  ·omega
  ·split <;> omega
 rw [e]
 unfold finsAll finsTo finsOfF
 obtain ⟨i0, hi0, hq0⟩ := h.one
 have hf0 : f ≠ 0 := fun h0 => by
  have := tf i0
  rw [h0] at this
  simp [hi0, hq0] at this
 refine List.mem_flatMap.2 ⟨f, List.mem_filter.2 ⟨List.mem_range.2 (by rw [hf]; exact bitsN_lt _ _), by simp; omega⟩, ?_⟩
 refine List.mem_map.2 ⟨s, List.mem_filter.2 ⟨List.mem_range.2 (by rw [hs]; exact bitsN_lt _ _), ?_⟩, rfl⟩
 unfold okFS
 have ha : f &&& s = 0 := by
  refine Nat.eq_of_testBit_eq fun i => ?_
  rw [Nat.testBit_and, tf, ts, Nat.zero_testBit]
  by_cases h0 : q i = 0 <;> simp [h0]
 rw [decide_eq_true ha, Bool.true_and, Bool.or_eq_true]
 rcases h.two with ⟨i1, hi1, hq1⟩ | hall
 ·refine .inl (decide_eq_true fun h0 => ?_)
  have := ts i1
  rw [h0] at this
  simp [hi1, hq1] at this
 ·refine .inr (decide_eq_true ?_)
  refine Nat.eq_of_testBit_eq fun i => ?_
  rw [tf, Nat.testBit_two_pow_sub_one]
  by_cases hi : i < L.length
  ·simp [hi, hall i hi]
  ·simp [hi]
theorem mem_finsAll {L : List Int} (_ : 1 ≤ L.length) {fs : List (List Int)} (h : fs ∈ finsAll L) : ∃ q, OkQ L q ∧ fs = finQ L q := by
 unfold finsAll finsTo finsOfF at h
 obtain ⟨f, hf, h2⟩ := List.mem_flatMap.1 h
 obtain ⟨s, hs, rfl⟩ := List.mem_map.1 h2
 obtain ⟨hf1, hf2⟩ := List.mem_filter.1 hf
 obtain ⟨hs1, hs2⟩ := List.mem_filter.1 hs
 have hf1 := List.mem_range.1 hf1
 have hs1 := List.mem_range.1 hs1
 have hf2 : 1 ≤ f := by simpa using hf2
 have bit : ∀ x, x < 2 ^ L.length → x ≠ 0 → ∃ i, i < L.length ∧ x.testBit i = true := fun x hx h0 => by
  obtain ⟨i, hi⟩ := Nat.exists_testBit_of_ne_zero h0
  refine ⟨i, ?_, hi⟩
  rcases Nat.lt_or_ge i L.length with hl | hl
  ·exact hl
  ·have h1 : 2 ^ L.length ≤ 2 ^ i := Nat.pow_le_pow_right (by omega) hl
   rw [Nat.testBit_lt_two_pow (by omega)] at hi
   cases hi
 unfold okFS at hs2
 rw [Bool.and_eq_true, Bool.or_eq_true] at hs2
 obtain ⟨ha, hb⟩ := hs2
 have ha := of_decide_eq_true ha
 refine ⟨partV f s, ⟨fun i _ => ?_, ?_, ?_⟩, finsK_Q L f s⟩
 ·unfold partV
  split
  ·omega
  ·split <;> omega
 ·obtain ⟨i, hi, ht⟩ := bit f hf1 (by omega)
  exact ⟨i, hi, by unfold partV; rw [if_pos ht]⟩
 ·rcases hb with hb | hb
  ·obtain ⟨i, hi, ht⟩ := bit s hs1 (of_decide_eq_true hb)
   refine .inl ⟨i, hi, ?_⟩
   have h1 : (f &&& s).testBit i = false := by rw [ha]; simp
   rw [Nat.testBit_and, ht, Bool.and_true] at h1
   unfold partV
   rw [if_neg (by rw [h1]; simp), if_pos ht]
  ·refine .inr fun i hi => ?_
   have hb := of_decide_eq_true hb
   unfold partV
   rw [if_pos]
   rw [hb, Nat.testBit_two_pow_sub_one]
   simpa using hi
theorem rising_eq {l m : List Int} (h1 : rising l = true) (h2 : rising m = true) (h : ∀ x, x ∈ l ↔ x ∈ m) : l = m :=
 List.Perm.eq_of_pairwise (le := (· < ·)) (fun a b _ _ h3 h4 => by omega) (rising_iff.1 h1) (rising_iff.1 h2) ((List.perm_ext_iff_of_nodup (rising_nodup h1) (rising_nodup h2)).2 h)
theorem grpQ_mem {L : List Int} {q : Nat → Nat} {k : Nat} {x : Int} : x ∈ grpQ L q k ↔ ∃ i, i < L.length ∧ q i = k ∧ gt L i = x := by
 unfold grpQ
 rw [List.mem_map]
 constructor
 ·rintro ⟨i, hi, rfl⟩
  obtain ⟨h1, h2⟩ := List.mem_filter.1 hi
  exact ⟨i, List.mem_range.1 h1, of_decide_eq_true h2, rfl⟩
 ·rintro ⟨i, h1, h2, rfl⟩
  exact ⟨i, List.mem_filter.2 ⟨List.mem_range.2 h1, decide_eq_true h2⟩, rfl⟩
theorem grpQ_rising {L : List Int} (h : rising L = true) (q : Nat → Nat) (k : Nat) : rising (grpQ L q k) = true := by
 rw [rising_iff] at h ⊢
 unfold grpQ
 rw [List.pairwise_map]
 refine List.Pairwise.sublist List.filter_sublist ?_
 rw [List.pairwise_iff_getElem] at h ⊢
 intro i j hi hj hij
 simp only [List.length_range] at hi hj
 rw [List.getElem_range, List.getElem_range, ← gt_get hi, ← gt_get hj]
 exact h i j hi hj hij
theorem mem_gt {L : List Int} {x : Int} (h : x ∈ L) : ∃ i, i < L.length ∧ gt L i = x := by
 obtain ⟨i, hi, e⟩ := List.getElem_of_mem h
 exact ⟨i, hi, by rw [← gt_get hi]; exact e⟩
/-- a finish's first two groups come up -/
theorem fins_first {b : Bk} {fs : List (List Int)} (h : FinV b fs) : ∃ gs ∈ finsAll (runL b), gs.take 2 = fs.take 2 := by
 have hr := runL_rising b
 have h2 := runL_two h.book
 have hm : ∀ x, x ∈ runL b ↔ x ∈ fs.flatten := fun x => h.perm.mem_iff
 have hnd : fs.flatten.Nodup := h.perm.nodup_iff.1 (runL_nodup b)
 match fs, h with
 | [], h =>
  have := h.len
  simp at this; omega
 | [g], h =>
  have e : g = runL b := rising_eq (h.up g (by simp)) hr fun x => by rw [hm x]; simp
  have hq : OkQ (runL b) fun _ => 0 := ⟨fun _ _ => by omega, ⟨0, by omega, rfl⟩, .inr fun _ _ => rfl⟩
  refine ⟨_, finQ_mem hq, ?_⟩
  have e0 : grpQ (runL b) (fun _ => 0) 0 = runL b := rising_eq (grpQ_rising hr _ _) hr fun x => by
   rw [grpQ_mem]
   constructor
   ·rintro ⟨i, hi, _, rfl⟩; rw [← gt_get hi]; exact List.getElem_mem hi
   ·intro hx; obtain ⟨i, hi, e⟩ := mem_gt hx; exact ⟨i, hi, rfl, e⟩
  have e1 : grpQ (runL b) (fun _ => 0) 1 = [] := by unfold grpQ; simp
  have e2 : grpQ (runL b) (fun _ => 0) 2 = [] := by unfold grpQ; simp
  have hne : (runL b).isEmpty = false := by
   cases hL : runL b with
   | nil => rw [hL] at h2; simp at h2
   | cons => rfl
  unfold finQ
  rw [e0, e1, e2, ← e] at *
  simp [hne]
 | g1 :: g2 :: l, h =>
  have d1 : ∀ x, x ∈ g1 → x ∉ g2 := fun x hx hy => by
   rw [List.flatten_cons, List.flatten_cons, List.nodup_append] at hnd
   exact hnd.2.2 x hx x (by simp [hy]) rfl
  have s1 : ∀ x, x ∈ g1 → x ∈ runL b := fun x hx => (hm x).2 (by simp [hx])
  have s2 : ∀ x, x ∈ g2 → x ∈ runL b := fun x hx => (hm x).2 (by simp [hx])
  obtain ⟨q, hq⟩ : ∃ q : Nat → Nat, q = fun i => if gt (runL b) i ∈ g1 then 0 else if gt (runL b) i ∈ g2 then 1 else 2 := ⟨_, rfl⟩
  have q0 : ∀ i, q i = 0 ↔ gt (runL b) i ∈ g1 := fun i => by
   rw [hq]; simp only
   split
   ·simp [*]
   ·split <;> simp [*]
  have q1 : ∀ i, q i = 1 ↔ gt (runL b) i ∈ g2 := fun i => by
   rw [hq]; simp only
   split
   ·rename_i hx; simp [d1 _ hx]
   ·split <;> simp [*]
  have ex : ∀ g : List Int, g ≠ [] → (∀ x, x ∈ g → x ∈ runL b) → ∃ i, i < (runL b).length ∧ gt (runL b) i ∈ g := fun g hne hs => by
   cases g with
   | nil => exact absurd rfl hne
   | cons a g =>
    obtain ⟨i, hi, e⟩ := mem_gt (hs a (by simp))
    exact ⟨i, hi, by rw [e]; simp⟩
  have hok : OkQ (runL b) q := by
   refine ⟨fun i _ => ?_, ?_, .inl ?_⟩
   ·rw [hq]; simp only
    split
    ·omega
    ·split <;> omega
   ·obtain ⟨i, hi, e⟩ := ex g1 (h.ne g1 (by simp)) s1
    exact ⟨i, hi, (q0 i).2 e⟩
   ·obtain ⟨i, hi, e⟩ := ex g2 (h.ne g2 (by simp)) s2
    exact ⟨i, hi, (q1 i).2 e⟩
  have e0 : grpQ (runL b) q 0 = g1 := rising_eq (grpQ_rising hr _ _) (h.up g1 (by simp)) fun x => by
   rw [grpQ_mem]
   constructor
   ·rintro ⟨i, hi, hqi, rfl⟩; exact (q0 i).1 hqi
   ·intro hx
    obtain ⟨i, hi, e⟩ := mem_gt (s1 x hx)
    exact ⟨i, hi, (q0 i).2 (by rw [e]; exact hx), e⟩
  have e1 : grpQ (runL b) q 1 = g2 := rising_eq (grpQ_rising hr _ _) (h.up g2 (by simp)) fun x => by
   rw [grpQ_mem]
   constructor
   ·rintro ⟨i, hi, hqi, rfl⟩; exact (q1 i).1 hqi
   ·intro hx
    obtain ⟨i, hi, e⟩ := mem_gt (s2 x hx)
    exact ⟨i, hi, (q1 i).2 (by rw [e]; exact hx), e⟩
  refine ⟨_, finQ_mem hok, ?_⟩
  have n1 : g1.isEmpty = false := by
   cases hL : g1 with
   | nil => exact absurd hL (h.ne g1 (by simp))
   | cons => rfl
  have n2 : g2.isEmpty = false := by
   cases hL : g2 with
   | nil => exact absurd hL (h.ne g2 (by simp))
   | cons => rfl
  unfold finQ
  rw [e0, e1]
  simp [n1, n2]
theorem fold_min (l : List Int) : ∀ a, (l.foldl min a ≤ a ∧ ∀ x ∈ l, l.foldl min a ≤ x) ∧ (l.foldl min a = a ∨ l.foldl min a ∈ l) := by
 induction l with
 | nil => intro a; simp
 | cons y l ih =>
  intro a
  obtain ⟨⟨h1, h2⟩, h3⟩ := ih (min a y)
  simp only [List.foldl_cons]
  refine ⟨⟨by omega, fun x hx => ?_⟩, ?_⟩
  ·rcases List.mem_cons.1 hx with rfl | hx
   ·omega
   ·exact h2 x hx
  ·rcases h3 with h3 | h3
   ·rcases Int.le_total a y with hay | hay
    ·left; rw [h3]; omega
    ·right; rw [h3]; simp; left; omega
   ·right; simp [h3]
theorem fold_max (l : List Int) : ∀ a, (a ≤ l.foldl max a ∧ ∀ x ∈ l, x ≤ l.foldl max a) ∧ (l.foldl max a = a ∨ l.foldl max a ∈ l) := by
 induction l with
 | nil => intro a; simp
 | cons y l ih =>
  intro a
  obtain ⟨⟨h1, h2⟩, h3⟩ := ih (max a y)
  simp only [List.foldl_cons]
  refine ⟨⟨by omega, fun x hx => ?_⟩, ?_⟩
  ·rcases List.mem_cons.1 hx with rfl | hx
   ·omega
   ·exact h2 x hx
  ·rcases h3 with h3 | h3
   ·rcases Int.le_total a y with hay | hay
    ·right; rw [h3]; simp; left; omega
    ·left; rw [h3]; omega
   ·right; simp [h3]
theorem gt0_mem {l : List Int} (h : l ≠ []) : gt l 0 ∈ l := by
 have h0 : 0 < l.length := List.length_pos_iff.2 h
 rw [← gt_get h0]; exact List.getElem_mem h0
theorem minP_spec {l : List Int} (h : l ≠ []) : minP l ∈ l ∧ ∀ x ∈ l, minP l ≤ x := by
 obtain ⟨⟨h1, h2⟩, h3⟩ := fold_min l (gt l 0)
 refine ⟨?_, h2⟩
 rcases h3 with h3 | h3
 ·unfold minP; rw [h3]; exact gt0_mem h
 ·exact h3
theorem maxP_spec {l : List Int} (h : l ≠ []) : maxP l ∈ l ∧ ∀ x ∈ l, x ≤ maxP l := by
 obtain ⟨⟨h1, h2⟩, h3⟩ := fold_max l (gt l 0)
 refine ⟨?_, h2⟩
 rcases h3 with h3 | h3
 ·unfold maxP; rw [h3]; exact gt0_mem h
 ·exact h3
theorem sprL_ne {b : Bk} (v : BVal b) : sprL b ≠ [] := by
 unfold sprL
 intro e
 rw [List.map_eq_nil_iff] at e
 exact finsAll_pos (by have := runL_two v; omega) e
/-- what is paid is within the spread, and this within 0 and the net -/
theorem within_spr {b : Bk} {fs : List (List Int)} (h0 : bkErr b = 0) (h : FinV b fs) : sprLo b ≤ paidP b fs ∧ paidP b fs ≤ sprHi b ∧ 0 ≤ sprLo b ∧ sprHi b ≤ netP b := by
 have hm1 := minP_spec (sprL_ne h.book)
 have hm2 := maxP_spec (sprL_ne h.book)
 obtain ⟨gs, hg, he⟩ := fins_first h
 have hp : paidP b fs ∈ sprL b := by
  unfold sprL
  refine List.mem_map.2 ⟨gs, hg, ?_⟩
  rw [acc_take2 he]; exact acc_p
 have hall : ∀ x ∈ sprL b, 0 ≤ x ∧ x ≤ netP b := fun x hx => by
  unfold sprL at hx
  obtain ⟨g, hg, rfl⟩ := List.mem_map.1 hx
  rw [acc_p]
  exact paid_net (finsAll_val h.book hg)
 unfold sprLo sprHi
 rw [if_pos h0, if_pos h0]
 exact ⟨hm1.2 _ hp, hm2.2 _ hp, (hall _ hm1.1).1, (hall _ hm2.1).2⟩
theorem acc_rest (b : Bk) (fs : List (List Int)) : (accA b fs).p + (accA b fs).q + (accA b fs).o = netP b := by
 unfold accA netA
 split
 ·simp only; omega
 ·simp only; omega
end Go.Proofs.Ytphajlldghcnnaa
