/-
 Plain: runners with other names: dividends go with them, the account stays.
-/
import Derived.Test.YtphajlldghcnnaaNamM
namespace Go.Proofs.Ytphajlldghcnnaa
section
variable {b : Bk} {σ : List Int} (h : IsNam b.n σ) {fs : List (List Int)} (hf : FinV b fs)
include h hf
theorem nam_wins2 {t : Spt} (ht : t ∈ winsP (namC b σ) (namF b σ fs)) : ∃ s ∈ winsP b fs, namS b.kd σ s = t := by
 have v := hf.book
 have hgf := nam_fin v h hf
 have htk := wins_okS hgf ht
 obtain ⟨x, y⟩ := t
 have hw := ((wins_mem hgf).1 ht).2.2
 have hal := nam_alo h hf
 have hk' : (namC b σ).kd = b.kd := rfl
 have hbn := v.n
 have hkd := v.kd
 have ea : ∀ x, x ∈ fst0 (namF b σ fs) → ∃ k, (0 ≤ k ∧ k < b.n) ∧ nm σ k = x ∧ k ∈ fst0 fs := fun x hx => by
  rw [nam_f0 h] at hx
  obtain ⟨k, h1, h2, h3⟩ := (selN_mem h).1 hx
  exact ⟨k, h1, h2, by simpa using h3⟩
 have eb : ∀ x, x ∈ snd0 (namF b σ fs) → ∃ k, (0 ≤ k ∧ k < b.n) ∧ nm σ k = x ∧ k ∈ snd0 fs := fun x hx => by
  rw [nam_f1 h] at hx
  obtain ⟨k, h1, h2, h3⟩ := (selN_mem h).1 hx
  exact ⟨k, h1, h2, by simpa using h3⟩
 have e0 : (if (0 : Int) ≤ -1 then nm σ (-1) else -1) = -1 := if_neg (by omega)
 unfold isW at hw
 rw [hk', hal] at hw
 by_cases k0 : b.kd = 0
 ·rw [if_pos k0] at hw
  simp at hw
  obtain ⟨rfl, hx⟩ := hw
  obtain ⟨a, ha, rfl, h3⟩ := ea x hx
  refine ⟨(a, -1), (wins_mem hf).2 ⟨ha, by omega, ?_⟩, ?_⟩
  ·unfold isW; rw [if_pos k0]; simp [h3]
  ·unfold namS; simp only; rw [e0, if_neg (fun hc => by have := hc.1; omega)]
 rw [if_neg k0] at hw
 by_cases k1 : b.kd = 1
 ·rw [if_pos k1] at hw
  simp at hw
  obtain ⟨rfl, hx⟩ := hw
  have hx : ∃ a, (0 ≤ a ∧ a < b.n) ∧ nm σ a = x ∧ (a ∈ fst0 fs ∨ (alo fs = true ∧ a ∈ snd0 fs)) := by
   rcases hx with hx | ⟨hx, hy⟩
   ·obtain ⟨a, h1, h2, h3⟩ := ea x hx; exact ⟨a, h1, h2, .inl h3⟩
   ·obtain ⟨a, h1, h2, h3⟩ := eb x hy; exact ⟨a, h1, h2, .inr ⟨hx, h3⟩⟩
  obtain ⟨a, ha, rfl, h3⟩ := hx
  refine ⟨(a, -1), (wins_mem hf).2 ⟨ha, by omega, ?_⟩, ?_⟩
  ·unfold isW; rw [if_neg k0, if_pos k1]; simpa using h3
  ·unfold namS; simp only; rw [e0, if_neg (fun hc => by have := hc.1; omega)]
 rw [if_neg k1] at hw
 by_cases k2 : b.kd = 2
 ·rw [if_pos k2] at hw
  simp at hw
  obtain ⟨⟨hne, hx⟩, hy⟩ := hw
  obtain ⟨a, ha, rfl, h3⟩ := ea x hx
  have hy : ∃ c, (0 ≤ c ∧ c < b.n) ∧ nm σ c = y ∧ ((alo fs = false ∧ c ∈ fst0 fs) ∨ (alo fs = true ∧ c ∈ snd0 fs)) := by
   rcases hy with ⟨hq, hy⟩ | ⟨hq, hy⟩
   ·obtain ⟨c, h1, h2, h3⟩ := ea y hy; exact ⟨c, h1, h2, .inl ⟨hq, h3⟩⟩
   ·obtain ⟨c, h1, h2, h3⟩ := eb y hy; exact ⟨c, h1, h2, .inr ⟨hq, h3⟩⟩
  obtain ⟨c, hc, rfl, h4⟩ := hy
  refine ⟨(a, c), (wins_mem hf).2 ⟨ha, by omega, ?_⟩, ?_⟩
  ·unfold isW
   rw [if_neg k0, if_neg k1, if_pos k2]
   simp
   exact ⟨⟨fun e => hne (by rw [e]), h3⟩, h4⟩
  ·unfold namS; simp only; rw [if_pos hc.1, if_neg (fun hc => by have := hc.1; omega)]
 ·rw [if_neg k2] at hw
  have k3 : b.kd = 3 := by omega
  simp at hw
  obtain ⟨hlt, hw⟩ := hw
  -- two runners whose names these are, and how they came in
  have hw : ∃ a c, (0 ≤ a ∧ a < b.n) ∧ (0 ≤ c ∧ c < b.n) ∧ nm σ a = x ∧ nm σ c = y ∧ (((alo fs = false ∧ a ∈ fst0 fs) ∧ c ∈ fst0 fs) ∨ (alo fs = true ∧ ((a ∈ fst0 fs ∧ c ∈ snd0 fs) ∨ (c ∈ fst0 fs ∧ a ∈ snd0 fs)))) := by
   rcases hw with ⟨⟨hq, hx⟩, hy⟩ | ⟨hq, hw⟩
   ·obtain ⟨a, a1, a2, a3⟩ := ea x hx
    obtain ⟨c, c1, c2, c3⟩ := ea y hy
    exact ⟨a, c, a1, c1, a2, c2, .inl ⟨⟨hq, a3⟩, c3⟩⟩
   ·rcases hw with ⟨hx, hy⟩ | ⟨hy, hx⟩
    ·obtain ⟨a, a1, a2, a3⟩ := ea x hx
     obtain ⟨c, c1, c2, c3⟩ := eb y hy
     exact ⟨a, c, a1, c1, a2, c2, .inr ⟨hq, .inl ⟨a3, c3⟩⟩⟩
    ·obtain ⟨a, a1, a2, a3⟩ := eb x hx
     obtain ⟨c, c1, c2, c3⟩ := ea y hy
     exact ⟨a, c, a1, c1, a2, c2, .inr ⟨hq, .inr ⟨c3, a3⟩⟩⟩
  obtain ⟨a, c, ha, hc, rfl, rfl, hw2⟩ := hw
  have hne : a ≠ c := fun e => by rw [e] at hlt; omega
  by_cases hac : a < c
  ·refine ⟨(a, c), (wins_mem hf).2 ⟨ha, by omega, ?_⟩, ?_⟩
   ·unfold isW
    rw [if_neg k0, if_neg k1, if_neg k2]
    simp
    exact ⟨hac, hw2⟩
   ·unfold namS; simp only; rw [if_pos hc.1, if_neg (fun e => by have := e.2; omega)]
  ·refine ⟨(c, a), (wins_mem hf).2 ⟨hc, by omega, ?_⟩, ?_⟩
   ·unfold isW
    rw [if_neg k0, if_neg k1, if_neg k2]
    simp
    refine ⟨by omega, ?_⟩
    rcases hw2 with ⟨⟨hq, h1⟩, h2⟩ | ⟨hq, hw3⟩
    ·exact .inl ⟨⟨hq, h2⟩, h1⟩
    ·exact .inr ⟨hq, hw3.symm⟩
   ·unfold namS; simp only; rw [if_pos ha.1, if_pos ⟨k3, hlt⟩]
end
theorem perm_sum {l m : List Int} (h : l.Perm m) : l.sum = m.sum := by
 induction h with
 | nil => rfl
 | cons x _ ih => simp [ih]
 | swap x y l => simp; omega
 | trans _ _ h1 h2 => exact h1.trans h2
section
variable {b : Bk} {σ : List Int} (h : IsNam b.n σ) (hfav : b.fav = false) {fs : List (List Int)} (hf : FinV b fs)
include h hfav hf
theorem nam_backed : (backedL (namC b σ) (namF b σ fs)).Perm ((backedL b fs).map (namS b.kd σ)) := by
 have v := hf.book
 have hgf := nam_fin v h hf
 have hbw : ∀ s ∈ backedL b fs, s ∈ winsP b fs ∧ unitsP b s ≠ 0 := fun s hs => by
  unfold backedL at hs
  obtain ⟨h1, h2⟩ := List.mem_filter.1 hs
  exact ⟨h1, of_decide_eq_true h2⟩
 have hnd : ((backedL b fs).map (namS b.kd σ)).Nodup := by
  have h1 : (backedL b fs).Nodup := by unfold backedL; exact (wins_nodup hf).filter _
  rw [List.nodup_iff_pairwise_ne] at h1 ⊢
  rw [List.pairwise_map]
  exact h1.imp_of_mem fun {x y} hx hy hne e => hne (namS_inj h (wins_okS hf (hbw x hx).1) (wins_okS hf (hbw y hy).1) e)
 refine (List.perm_ext_iff_of_nodup (by unfold backedL; exact (wins_nodup hgf).filter _) hnd).2 fun t => ?_
 rw [List.mem_map]
 constructor
 ·intro ht
  unfold backedL at ht
  obtain ⟨h1, h2⟩ := List.mem_filter.1 ht
  obtain ⟨s, hs, rfl⟩ := nam_wins2 h hf h1
  refine ⟨s, ?_, rfl⟩
  unfold backedL
  refine List.mem_filter.2 ⟨hs, ?_⟩
  rw [← nam_units v h hfav (wins_okS hf hs)]
  exact h2
 ·rintro ⟨s, hs, rfl⟩
  obtain ⟨h1, h2⟩ := hbw s hs
  unfold backedL
  refine List.mem_filter.2 ⟨nam_wins1 h hf h1, ?_⟩
  rw [nam_units v h hfav (wins_okS hf h1)]
  exact decide_eq_true h2
theorem nam_net : netP (namC b σ) = netP b ∧ dutyP (namC b σ) = dutyP b := by
 obtain ⟨hk, hi⟩ := nam_back hf.book h hfav
 have hd : dutyP (namC b σ) = dutyP b := by unfold dutyP; rw [hi, hk]; rfl
 exact ⟨by unfold netP; rw [hi, hk, hd], hd⟩
theorem nam_share : shareP (namC b σ) (namF b σ fs) = shareP b fs := by
 unfold shareP
 rw [(nam_net h hfav hf).1, (nam_backed h hfav hf).length_eq, List.length_map]
theorem nam_pence {s : Spt} (hs : s ∈ winsP b fs) : penceP (namC b σ) (namF b σ fs) (namS b.kd σ s) = penceP b fs s := by
 unfold penceP
 rw [nam_share h hfav hf, nam_units hf.book h hfav (wins_okS hf hs)]
 rfl
theorem nam_penceF {s : Spt} (hs : s ∈ backedL b fs) : penceF (divP (namC b σ) (namF b σ fs)) (namS b.kd σ s) = penceP b fs s := by
 have hw : s ∈ winsP b fs := by
  unfold backedL at hs
  exact (List.mem_filter.1 hs).1
 rw [penceF_div ((nam_backed h hfav hf).symm.subset (List.mem_map.2 ⟨s, hs, rfl⟩)), nam_pence h hfav hf hw]
theorem nam_len : (divP (namC b σ) (namF b σ fs)).length = (divP b fs).length := by
 unfold divP
 rw [List.length_map, List.length_map, (nam_backed h hfav hf).length_eq, List.length_map]
theorem nam_paid : paidP (namC b σ) (namF b σ fs) = paidP b fs := by
 unfold paidP divP
 rw [List.map_map, List.map_map]
 have h1 := perm_sum ((nam_backed h hfav hf).map ((fun d : Dvd => d.2 * unitsP (namC b σ) d.1) ∘ fun s => (s, penceP (namC b σ) (namF b σ fs) s)))
 rw [h1, List.map_map]
 congr 1
 refine List.map_congr_left fun s hs => ?_
 have hw : s ∈ winsP b fs := by
  unfold backedL at hs
  exact (List.mem_filter.1 hs).1
 simp only [Function.comp]
 rw [nam_pence h hfav hf hw, nam_units hf.book h hfav (wins_okS hf hw)]
theorem nam_acc : accA (namC b σ) (namF b σ fs) = accA b fs := by
 obtain ⟨hn, hd⟩ := nam_net h hfav hf
 obtain ⟨hk, hi⟩ := nam_back hf.book h hfav
 have hp := nam_paid h hfav hf
 have hl := nam_len h hfav hf
 unfold accA netA
 rw [hn, hd, hk, hi, hp]
 have e : (divP (namC b σ) (namF b σ fs) = []) ↔ (divP b fs = []) := by
  rw [← List.length_eq_zero_iff, ← List.length_eq_zero_iff, hl]
 by_cases e2 : divP b fs = []
 ·rw [if_pos e2, if_pos (e.2 e2)]
 ·rw [if_neg e2, if_neg (fun x => e2 (e.1 x))]
end
/-- two names are exchanged -/
def swN (x y : Nat) (l : List Int) : List Int := (l.set x (gt l y)).set y (gt l x)
theorem swN_len (x y : Nat) (l : List Int) : (swN x y l).length = l.length := by unfold swN; simp
theorem swN_gt {x y i : Nat} {l : List Int} (hx : x < l.length) (hy : y < l.length) : gt (swN x y l) i = if i = y then gt l x else if i = x then gt l y else gt l i := by
 unfold swN
 unfold gt
 simp only [List.getD_eq_getElem?_getD, List.getElem?_set]
 by_cases h1 : y = i
 ·subst h1
  simp [hy]
 ·have h1' : ¬ i = y := fun e => h1 e.symm
  rw [if_neg h1, if_neg h1']
  by_cases h2 : x = i
  ·subst h2
   simp [hx]
  ·have h2' : ¬ i = x := fun e => h2 e.symm
   rw [if_neg h2, if_neg h2']
theorem IsNam.sw {n : Int} {l : List Int} (h : IsNam n l) {x y : Nat} (hx : (x : Int) < n) (hy : (y : Int) < n) : IsNam n (swN x y l) := by
 have hl := h.len
 have hxl : x < l.length := by omega
 have hyl : y < l.length := by omega
 have e : ∀ r : Int, nm (swN x y l) r = nm l (if r.toNat = y then (x : Int) else if r.toNat = x then (y : Int) else r) := fun r => by
  unfold nm
  rw [swN_gt hxl hyl]
  split
  ·simp
  ·split
   ·simp
   ·rfl
 have hb : ∀ r : Int, 0 ≤ r → r < n → 0 ≤ (if r.toNat = y then (x : Int) else if r.toNat = x then (y : Int) else r) ∧ (if r.toNat = y then (x : Int) else if r.toNat = x then (y : Int) else r) < n := fun r h1 h2 => by
  split
  ·omega
  ·split <;> omega
 refine ⟨by rw [swN_len]; exact hl, fun r h1 h2 => ?_, fun r s h1 h2 h3 h4 he => ?_⟩
 ·rw [e]
  have := hb r h1 h2
  exact h.bd _ this.1 this.2
 ·rw [e, e] at he
  have b1 := hb r h1 h2
  have b2 := hb s h3 h4
  have := h.inj _ _ b1.1 b1.2 b2.1 b2.2 he
  by_cases r1 : r.toNat = y <;> by_cases s1 : s.toNat = y <;> by_cases r2 : r.toNat = x <;> by_cases s2 : s.toNat = x <;> simp only [r1, s1, r2, s2, if_true, if_false] at this <;> omega
theorem isNam_id {n : Int} (hn : 0 ≤ n) : IsNam n (cas n.toNat) := by
 have e : ∀ r : Int, 0 ≤ r → r < n → nm (cas n.toNat) r = r := fun r h1 h2 => by
  unfold nm gt cas
  rw [List.getD_eq_getElem?_getD, List.getElem?_map, List.getElem?_range (by omega)]
  simp; omega
 refine ⟨by unfold cas; simp; omega, fun r h1 h2 => by rw [e r h1 h2]; omega, fun r s h1 h2 h3 h4 he => ?_⟩
 rw [e r h1 h2, e s h3 h4] at he
 exact he
end Go.Proofs.Ytphajlldghcnnaa
