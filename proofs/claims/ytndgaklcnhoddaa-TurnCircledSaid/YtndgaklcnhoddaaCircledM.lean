/-
  Plain: a circle begun elsewhere, and done twice, is a circle; what is behind it is safe.
-/
import Derived.Test.YtndgaklcnhoddaaCut
import Derived.Test.YtndgaklcnhoddaaEither
import Derived.Test.YtndgaklcnhoddaaWe
namespace Go.Proofs.Ytndgaklcnhoddaa
open Go.RowKit Go.Shelf
/-- what Play answers at a state and visits of the hall -/
theorem playC {ks s row : List Int} (v : TVal ks) (hs : isSt ks s = true) (hw : WinL ks row) (hl : row.length ≤ 1000) :
    playN ks s row = ((playP ks 0 s row).2 : Int) ∧ ((playErr ks s row = 17 ∧ (playP ks 0 s row).1.isSome = false) ∨ (playErr ks s row = 0 ∧ (playP ks 0 s row).1.isSome = true)) := by
  have h0 : ¬ stErr ks s ≠ 0 := fun e => e (stErr_of v hs)
  have h1 : ¬ rowErr ks row ≠ 0 := fun e => e (rowErr_of hl hw)
  unfold playN playErr
  rw [if_neg h0, if_neg h1, if_neg (fun h => h.elim h0 h1)]
  refine ⟨rfl, ?_⟩
  cases (playP ks 0 s row).1.isSome
  · exact .inl ⟨by simp, rfl⟩
  · exact .inr ⟨by simp, rfl⟩
theorem circleErr_or {ks : List Int} (v : TVal ks) : (circleErr ks = 0 ∧ SafeP (nxS ks) (zeroS ks)) ∨ (circleErr ks = 17 ∧ ¬ SafeP (nxS ks) (zeroS ks)) := by
  unfold circleErr
  rw [if_neg (fun e => e (tchk_of v))]
  by_cases h : rowOf (nxS ks) (zeroS ks) < 0
  · rw [if_pos h]; exact .inl ⟨rfl, rowOf_neg.1 h⟩
  · rw [if_neg h]; exact .inr ⟨rfl, fun e => h (rowOf_neg.2 e)⟩
theorem play_two {ks : List Int} : ∀ (p q : List Int) (a : Nat) (s : List Int), (playP ks a s (p ++ q)).1 = (playP ks a s p).1.bind fun t => (playP ks 0 t q).1
  | [], q, a, s => by simp [playP, play_fst q a 0 s]
  | w :: p, q, a, s => by
    rw [List.cons_append, playP, playP]
    split
    · rfl
    · exact play_two p q _ _
theorem play_len {ks : List Int} : ∀ (row : List Int) (a : Nat) (s : List Int), (playP ks a s row).1.isSome = true → (playP ks a s row).2 = a + row.length
  | [], a, s, _ => by simp [playP]
  | w :: row, a, s, h => by
    rw [playP] at h ⊢
    split at h
    · cases h
    · rename_i hf
      rw [if_neg hf, play_len row _ _ h, List.length_cons]
      omega
theorem circ_rot {ks c : List Int} (v : TVal ks) (hw : WinL ks c) (h : circP ks c = true) (k : Nat) : circP ks (c.drop k ++ c.take k) = true := by
  obtain ⟨s, hs, -, hc, hne⟩ := circ_closed v hw h
  have h1 := hc 0
  rw [show c = c.take k ++ c.drop k from (List.take_append_drop k c).symm, play_two] at h1
  have hwt : WinL ks (c.take k) := fun x hx => hw x (List.mem_of_mem_take hx)
  have hwd : WinL ks (c.drop k) := fun x hx => hw x (List.mem_of_mem_drop hx)
  cases e : (playP ks 0 s (c.take k)).1 with
  | none => rw [e] at h1; cases h1
  | some t =>
    rw [e] at h1
    have ht : isSt ks t = true := wlk_st v hs (play_wlk hwt e)
    refine closed_circ v ht (fun x hx => ?_) (fun hn => hne ?_) (a := 0) ?_
    · rcases List.mem_append.1 hx with hx | hx
      · exact hwd x hx
      · exact hwt x hx
    · obtain ⟨h2, h3⟩ := List.append_eq_nil_iff.1 hn
      rw [← List.take_append_drop k c, h2, h3]; rfl
    · rw [play_two]
      have h1' : (playP ks 0 t (c.drop k)).1 = some s := h1
      rw [h1']
      exact e
theorem circ_two {ks c : List Int} (v : TVal ks) (hw : WinL ks c) (h : circP ks c = true) : circP ks (c ++ c) = true := by
  obtain ⟨s, hs, -, hc, hne⟩ := circ_closed v hw h
  refine closed_circ v hs (fun x hx => ?_) (fun hn => hne (List.append_eq_nil_iff.1 hn).1) (a := 0) ?_
  · rcases List.mem_append.1 hx with hx | hx <;> exact hw x hx
  · rw [play_two, hc 0]; exact hc 0
/-- what is behind a circle -/
theorem circ_behind {ks c : List Int} (v : TVal ks) (hw : WinL ks c) (h : circP ks c = true) (hl : c.length ≤ 1000) :
    ∃ t, isSt ks t = true ∧ playErr ks (zeroS ks) c = 0 ∧ playN ks (zeroS ks) c = (c.length : Int) ∧ playL ks (zeroS ks) c = t ∧ doomRErr ks t = 5 := by
  obtain ⟨s, hs, h0, hc, hne⟩ := circ_closed v hw h
  obtain ⟨e1, e2⟩ := playC v (zeroS_st v) hw hl
  have hsome : (playP ks 0 (zeroS ks) c).1.isSome = true := by rw [h0]; rfl
  have e3 : playErr ks (zeroS ks) c = 0 := by
    rcases e2 with ⟨_, e⟩ | ⟨e, _⟩
    · rw [hsome] at e; cases e
    · exact e
  refine ⟨s, hs, e3, by rw [e1, play_len _ _ _ hsome]; simp, by unfold playL; rw [if_pos e3, h0]; rfl, ?_⟩
  have hsafe : SafeP (nxS ks) s := closed_safe (List.length_pos_iff.2 hne) (play_wlk hw (hc 0))
  rcases doomR_cases v hs with ⟨_, e, _⟩ | ⟨e, _⟩
  · exact absurd hsafe e
  · exact e
/-- a given circle is not shorter than the shortest, and there is none where there is none -/
theorem given_circ {ks c : List Int} (v : TVal ks) (hw : WinL ks c) (h : circErr ks c = 0) : SafeP (nxS ks) (zeroS ks) ∧ ∀ m, IsShort ks m → m ≤ c.length := by
  have hcirc : circP ks c = true := by
    unfold circErr at h
    split at h
    · rename_i h1; exact absurd h h1
    · split at h
      · cases h
      · split at h
        · rename_i h1; exact absurd h h1
        · split at h
          · assumption
          · cases h
  obtain ⟨s, hs, -, hc, hne⟩ := circ_closed v hw hcirc
  have hk := play_wlk hw (hc 0)
  have h1 := List.length_pos_iff.2 hne
  exact ⟨(zero_safe v).2 ⟨s, _, hs, h1, hk⟩, fun m hm => hm.2.2 s _ hs h1 hk⟩
end Go.Proofs.Ytndgaklcnhoddaa
