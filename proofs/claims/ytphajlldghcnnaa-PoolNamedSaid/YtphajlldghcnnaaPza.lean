/-
 Plain: two groups, one after the other, come in together.
-/
import Derived.Test.YtphajlldghcnnaaPz
namespace Go.Proofs.Ytphajlldghcnnaa
theorem wins_mem {b : Bk} {fs : List (List Int)} (h : FinV b fs) {a c : Int} : (a, c) ∈ winsP b fs ↔ (0 ≤ a ∧ a < b.n) ∧ (-1 ≤ c ∧ c < b.n) ∧ isW b fs a c = true := by
 rw [← refW_wins h]
 have hn := h.book.n
 unfold refW rowW twoK
 rw [List.mem_flatMap]
 constructor
 ·rintro ⟨x, hx, hy⟩
  obtain ⟨i, hi, rfl⟩ := List.mem_map.1 hx
  obtain ⟨y, hy2, he⟩ := List.mem_map.1 hy
  cases he
  obtain ⟨hy3, hy4⟩ := List.mem_filter.1 hy2
  obtain ⟨j, hj, rfl⟩ := List.mem_map.1 hy3
  have h1 := List.mem_range.1 hi
  have h2 := List.mem_range.1 hj
  exact ⟨by omega, by omega, hy4⟩
 ·rintro ⟨h1, h2, h3⟩
  refine ⟨a, List.mem_map.2 ⟨a.toNat, List.mem_range.2 (by omega), by omega⟩, List.mem_map.2 ⟨c, List.mem_filter.2 ⟨List.mem_map.2 ⟨(c + 1).toNat, List.mem_range.2 (by omega), by omega⟩, h3⟩, rfl⟩⟩
/-- the runners of two groups, of the first m -/
def bothTo (g h : List Int) (m : Nat) : List Int := ((List.range m).map fun (i : Nat) => (i : Int)).filter fun r => g.contains r || h.contains r
def bothP (b : Bk) (g h : List Int) : List Int := bothTo g h b.n.toNat
theorem bothTo_succ (g h : List Int) (m : Nat) : bothTo g h (m + 1) = bothTo g h m ++ if (g.contains (m : Int) || h.contains (m : Int)) = true then [(m : Int)] else [] := by
 unfold bothTo
 rw [List.range_succ, List.map_append, List.filter_append]
 congr 1
 cases e : (g.contains (m : Int) || h.contains (m : Int)) <;> simp [] <;> simpa using e
theorem bothTo_len (g h : List Int) (m : Nat) : (bothTo g h m).length ≤ m := by
 unfold bothTo
 exact Nat.le_trans (List.length_filter_le _ _) (by simp)
theorem bothP_mem {b : Bk} {g h : List Int} {r : Int} : r ∈ bothP b g h ↔ (0 ≤ r ∧ r < b.n) ∧ (r ∈ g ∨ r ∈ h) := by
 unfold bothP bothTo
 rw [List.mem_filter, List.mem_map]
 constructor
 ·rintro ⟨⟨i, hi, rfl⟩, hr⟩
  have := List.mem_range.1 hi
  exact ⟨by omega, by simpa using hr⟩
 ·rintro ⟨h1, h2⟩
  exact ⟨⟨r.toNat, List.mem_range.2 (by omega), by omega⟩, by simpa using h2⟩
theorem bothP_rising (b : Bk) (g h : List Int) : rising (bothP b g h) = true := by
 rw [rising_iff]
 unfold bothP bothTo
 refine List.Pairwise.sublist List.filter_sublist ?_
 rw [List.pairwise_map]
 exact List.pairwise_lt_range.imp fun h => by omega
/-- the finish where the groups k and k + 1 come in together -/
def togP (b : Bk) (fs : List (List Int)) (k : Nat) : List (List Int) := (fs.eraseIdx (k + 1)).set k (bothP b (fs.getD k []) (fs.getD (k + 1) []))
theorem tog_form {b : Bk} {fs : List (List Int)} {k : Nat} (hk : k + 1 < fs.length) : ∃ A g h B, A.length = k ∧ fs = A ++ g :: h :: B ∧ togP b fs k = A ++ bothP b g h :: B := by
 refine ⟨fs.take k, fs[k], fs[k + 1], fs.drop (k + 2), by rw [List.length_take]; omega, ?_, ?_⟩
 ·rw [List.getElem_cons_drop, List.getElem_cons_drop, List.take_append_drop]
 ·have e : fs = fs.take k ++ fs[k] :: fs[k + 1] :: fs.drop (k + 2) := by
   rw [List.getElem_cons_drop, List.getElem_cons_drop, List.take_append_drop]
  have hl : (fs.take k).length = k := by rw [List.length_take]; omega
  have e1 : fs.getD k [] = fs[k] := by rw [List.getD_eq_getElem?_getD, List.getElem?_eq_getElem (by omega)]; rfl
  have e2 : fs.getD (k + 1) [] = fs[k + 1] := by rw [List.getD_eq_getElem?_getD, List.getElem?_eq_getElem hk]; rfl
  have e3 : fs.eraseIdx (k + 1) = fs.take k ++ fs[k] :: fs.drop (k + 2) := by
   rw [List.eraseIdx_eq_take_drop_succ, List.take_add_one, List.getElem?_eq_getElem (by omega), List.append_assoc]
   rfl
  unfold togP
  rw [e1, e2, e3, List.set_append_right _ _ (by omega), hl, Nat.sub_self]
  rfl
theorem tog_val {b : Bk} {fs : List (List Int)} (h : FinV b fs) {k : Nat} (hk : k + 1 < fs.length) : FinV b (togP b fs k) := by
 obtain ⟨A, g, g2, B, -, e, et⟩ := tog_form (b := b) hk
 have hin : ∀ r, r ∈ g ∨ r ∈ g2 → 0 ≤ r ∧ r < b.n := fun r hr => by
  have h1 : r ∈ fs.flatten := by
   rw [e]; simp only [List.flatten_append, List.flatten_cons, List.mem_append]
   rcases hr with hr | hr
   ·exact .inr (.inl hr)
   ·exact .inr (.inr (.inl hr))
  have := runL_mem.1 (h.perm.symm.subset h1)
  omega
 have hnd : (g ++ g2).Nodup := by
  have h1 : fs.flatten.Nodup := h.perm.nodup_iff.1 (runL_nodup b)
  rw [e] at h1
  simp only [List.flatten_append, List.flatten_cons] at h1
  rw [← List.append_assoc g g2] at h1
  exact (List.nodup_append.1 (List.nodup_append.1 h1).2.1).1
 have hp : (bothP b g g2).Perm (g ++ g2) := (List.perm_ext_iff_of_nodup (rising_nodup (bothP_rising b g g2)) hnd).2 fun r => by
  rw [bothP_mem, List.mem_append]
  exact ⟨fun h => h.2, fun h => ⟨hin r h, h⟩⟩
 refine ⟨h.book, ?_, fun x hx => ?_, fun x hx => ?_⟩
 ·have h1 := h.perm
  rw [e] at h1
  rw [et]
  simp only [List.flatten_append, List.flatten_cons] at h1 ⊢
  refine h1.trans (List.Perm.append_left _ ?_)
  rw [← List.append_assoc g g2]
  exact hp.symm.append_right _
 ·rw [et] at hx
  rcases List.mem_append.1 hx with hx | hx
  ·exact h.ne x (by rw [e]; simp [hx])
  ·rcases List.mem_cons.1 hx with rfl | hx
   ·intro e0
    have hg := h.ne g (by rw [e]; simp)
    cases g with
    | nil => exact hg rfl
    | cons a l =>
     have := bothP_mem (b := b).2 ⟨hin a (.inl (by simp)), (.inl (by simp) : a ∈ a :: l ∨ a ∈ g2)⟩
     rw [e0] at this
     cases this
   ·exact h.ne x (by rw [e]; simp [hx])
 ·rw [et] at hx
  rcases List.mem_append.1 hx with hx | hx
  ·exact h.up x (by rw [e]; simp [hx])
  ·rcases List.mem_cons.1 hx with rfl | hx
   ·exact bothP_rising _ _ _
   ·exact h.up x (by rw [e]; simp [hx])
theorem tog_wins {b : Bk} {fs : List (List Int)} (h : FinV b fs) {k : Nat} (hk : k + 1 < fs.length) {s : Spt} (hs : s ∈ winsP b fs) : s ∈ winsP b (togP b fs k) := by
 obtain ⟨a, c⟩ := s
 have hg := tog_val h hk
 rw [wins_mem h] at hs
 rw [wins_mem hg]
 refine ⟨hs.1, hs.2.1, ?_⟩
 have hw := hs.2.2
 obtain ⟨A, g, g2, B, hA, e, et⟩ := tog_form (b := b) hk
 have ha := hs.1
 rw [et]
 rw [e] at hw
 match A, hA with
 | [], hA =>
  have hm : ∀ r, 0 ≤ r ∧ r < b.n → (r ∈ bothP b g g2 ↔ r ∈ g ∨ r ∈ g2) := fun r hr => by rw [bothP_mem]; simp [hr]
  have h1 : g ≠ [] := h.ne g (by rw [e]; simp)
  have h2 : g2 ≠ [] := h.ne g2 (by rw [e]; simp)
  have hin : ∀ r, r ∈ g ∨ r ∈ g2 → 0 ≤ r ∧ r < b.n := fun r hr => by
   have h1 : r ∈ fs.flatten := by
    rw [e]; simp only [List.nil_append, List.flatten_cons, List.mem_append]
    rcases hr with hr | hr
    ·exact .inl hr
    ·exact .inr (.inl hr)
   have := runL_mem.1 (h.perm.symm.subset h1)
   omega
  have hnd : (g ++ g2).Nodup := by
   have h1 : fs.flatten.Nodup := h.perm.nodup_iff.1 (runL_nodup b)
   rw [e] at h1
   simp only [List.nil_append, List.flatten_cons] at h1
   rw [← List.append_assoc g g2] at h1
   exact (List.nodup_append.1 h1).1
  have hal : alo (bothP b g g2 :: B) = false := by
   have hp : (bothP b g g2).Perm (g ++ g2) := (List.perm_ext_iff_of_nodup (rising_nodup (bothP_rising b g g2)) hnd).2 fun r => by
    rw [bothP_mem, List.mem_append]
    exact ⟨fun h => h.2, fun h => ⟨hin r h, h⟩⟩
   have hl := hp.length_eq
   rw [List.length_append] at hl
   have l1 := List.length_pos_iff.2 h1
   have l2 := List.length_pos_iff.2 h2
   unfold alo fst0
   rw [decide_eq_false_iff_not]
   simp only [List.headD_cons]
   omega
  simp only [List.nil_append] at hw ⊢
  unfold isW at hw ⊢
  rw [hal]
  have f0 : fst0 (bothP b g g2 :: B) = bothP b g g2 := rfl
  have f1 : fst0 (g :: g2 :: B) = g := rfl
  have f2 : snd0 (g :: g2 :: B) = g2 := rfl
  rw [f0]
  rw [f1, f2] at hw
  have hma := hm a ha
  have hic : c ∈ g ∨ c ∈ g2 → c ∈ bothP b g g2 := fun hc => (hm c (hin c hc)).2 hc
  by_cases k0 : b.kd = 0
  ·rw [if_pos k0] at hw ⊢
   simp at hw ⊢
   exact ⟨hw.1, hma.2 (.inl hw.2)⟩
  ·rw [if_neg k0] at hw ⊢
   by_cases k1 : b.kd = 1
   ·rw [if_pos k1] at hw ⊢
    simp at hw ⊢
    refine ⟨hw.1, hma.2 ?_⟩
    rcases hw.2 with hh | hh
    ·exact .inl hh
    ·exact .inr hh.2
   ·rw [if_neg k1] at hw ⊢
    by_cases k2 : b.kd = 2
    ·rw [if_pos k2] at hw ⊢
     simp at hw ⊢
     refine ⟨⟨hw.1.1, hma.2 (.inl hw.1.2)⟩, hic ?_⟩
     rcases hw.2 with hh | hh
     ·exact .inl hh.2
     ·exact .inr hh.2
    ·rw [if_neg k2] at hw ⊢
     simp at hw ⊢
     refine ⟨hw.1, ?_⟩
     rcases hw.2 with hh | hh
     ·exact ⟨hma.2 (.inl hh.1.2), hic (.inl hh.2)⟩
     ·rcases hh.2 with hh | hh
      ·exact ⟨hma.2 (.inl hh.1), hic (.inr hh.2)⟩
      ·exact ⟨hma.2 (.inr hh.2), hic (.inl hh.1)⟩
 | [x], hA =>
  have f1 : fst0 ([x] ++ g :: g2 :: B) = x := rfl
  have f2 : snd0 ([x] ++ g :: g2 :: B) = g := rfl
  have f3 : fst0 ([x] ++ bothP b g g2 :: B) = x := rfl
  have f4 : snd0 ([x] ++ bothP b g g2 :: B) = bothP b g g2 := rfl
  have ea : alo ([x] ++ bothP b g g2 :: B) = alo ([x] ++ g :: g2 :: B) := rfl
  have hin : ∀ r, r ∈ g → r ∈ bothP b g g2 := fun r hr => by
   have h1 : r ∈ fs.flatten := by rw [e]; simp [hr]
   have := runL_mem.1 (h.perm.symm.subset h1)
   exact bothP_mem.2 ⟨by omega, .inl hr⟩
  unfold isW at hw ⊢
  rw [ea, f3, f4]
  rw [f1, f2] at hw
  by_cases k0 : b.kd = 0
  ·rw [if_pos k0] at hw ⊢; exact hw
  ·rw [if_neg k0] at hw ⊢
   by_cases k1 : b.kd = 1
   ·rw [if_pos k1] at hw ⊢
    simp at hw ⊢
    refine ⟨hw.1, ?_⟩
    rcases hw.2 with hh | hh
    ·exact .inl hh
    ·exact .inr ⟨hh.1, hin a hh.2⟩
   ·rw [if_neg k1] at hw ⊢
    by_cases k2 : b.kd = 2
    ·rw [if_pos k2] at hw ⊢
     simp at hw ⊢
     refine ⟨hw.1, ?_⟩
     rcases hw.2 with hh | hh
     ·exact .inl hh
     ·exact .inr ⟨hh.1, hin c hh.2⟩
    ·rw [if_neg k2] at hw ⊢
     simp at hw ⊢
     refine ⟨hw.1, ?_⟩
     rcases hw.2 with hh | ⟨h0, hh⟩
     ·exact .inl hh
     ·refine .inr ⟨h0, ?_⟩
      rcases hh with hh | hh
      ·exact .inl ⟨hh.1, hin c hh.2⟩
      ·exact .inr ⟨hh.1, hin a hh.2⟩
 | x :: y :: l, hA => exact hw
theorem nodup_len {α : Type} [DecidableEq α] {l m : List α} (hl : l.Nodup) (hm : m.Nodup) (h : ∀ x ∈ l, x ∈ m) : l.length ≤ m.length := by
 have := count_out hl h hm
 omega
theorem back_sub {b : Bk} {fs gs : List (List Int)} (hf : FinV b fs) (hg : FinV b gs) (h : ∀ s ∈ winsP b fs, s ∈ winsP b gs) : (backedL b fs).length ≤ (backedL b gs).length ∧ ∀ s ∈ backedL b fs, s ∈ backedL b gs := by
 have h1 : ∀ s ∈ backedL b fs, s ∈ backedL b gs := fun s hs => by
  unfold backedL at hs ⊢
  obtain ⟨h2, h3⟩ := List.mem_filter.1 hs
  exact List.mem_filter.2 ⟨h s h2, h3⟩
 refine ⟨nodup_len ?_ ?_ h1, h1⟩ <;> unfold backedL
 ·exact (wins_nodup hf).filter _
 ·exact (wins_nodup hg).filter _
theorem tog_pence {b : Bk} {fs gs : List (List Int)} (hf : FinV b fs) (hg : FinV b gs) (h : ∀ s ∈ winsP b fs, s ∈ winsP b gs) {s : Spt} (hs : s ∈ backedL b fs) : penceF (divP b gs) s ≤ penceP b fs s := by
 obtain ⟨h1, h2⟩ := back_sub hf hg h
 have hn := (net_bd hf.book).2.2.2.1
 have hc := hf.book.car
 rw [penceF_div (h2 s hs)]
 exact pence_mono (u := unitsP b s) (st := b.step) (units_bd' hf.book s).1 hf.book.step.1 (share_le h1 (by omega) (Int.le_refl _) (List.length_pos_of_mem hs))
end Go.Proofs.Ytphajlldghcnnaa
