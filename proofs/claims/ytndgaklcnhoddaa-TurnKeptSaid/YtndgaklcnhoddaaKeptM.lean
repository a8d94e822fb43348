/-
  Plain: from a safe state each window of Next leads to a safe state, whoever pulls.
-/
import Derived.Test.YtndgaklcnhoddaaLawB
import Derived.Test.YtndgaklcnhoddaaEither
import Derived.Test.YtndgaklcnhoddaaOpenP
import Derived.Test.YtndgaklcnhoddaaPow
import Derived.Test.YtndgaklcnhoddaaSumM
namespace Go.Proofs.Ytndgaklcnhoddaa
open Go.RowKit Go.Shelf
theorem turnErr_ofK {ks s ps : List Int} {v : Int} (V : TVal ks) (hs : isSt ks s = true) (hp : incP ks.length 0 ps = true) (hv : inR 0 ((ks.length : Int) - 1) v = true) : turnErr ks s ps v = if fullP (fun i => ps.contains (i : Int)) ks s then 17 else 0 := by
  unfold turnErr
  rw [if_neg (fun e => e (stErr_of V hs)), if_pos ⟨hp, hv⟩]
theorem bits_incK {n b : Nat} : incP n 0 (bitsL n b) = true := incP_of (bits_sorted n b) fun x hx => ⟨(bits_mem.1 hx).1, (bits_mem.1 hx).2.1⟩
/-- one turn, by the bits of those that pull -/
theorem turn_byK {ks s : List Int} {b w : Nat} (V : TVal ks) (hs : isSt ks s = true) (hw : w < ks.length) :
    (fullP (fun i => (bitsL ks.length b).contains (i : Int)) ks s = true ∧ turnErr ks s (bitsL ks.length b) w = 17 ∧ turnL ks s (bitsL ks.length b) w = [] ∧ turnN ks s (bitsL ks.length b) w = 0) ∨
    (fullP (fun i => (bitsL ks.length b).contains (i : Int)) ks s = false ∧ turnErr ks s (bitsL ks.length b) w = 0 ∧ turnL ks s (bitsL ks.length b) w = visit (upP (fun i => (bitsL ks.length b).contains (i : Int)) s) w ∧ turnN ks s (bitsL ks.length b) w = gt (upP (fun i => (bitsL ks.length b).contains (i : Int)) s) w) := by
  have e := turnErr_ofK (v := (w : Int)) V hs bits_incK (inR_iff.2 (by omega)) (ps := bitsL ks.length b)
  cases hf : fullP (fun i => (bitsL ks.length b).contains (i : Int)) ks s
  · rw [hf, if_neg (by simp)] at e
    exact .inr ⟨rfl, e, by unfold turnL; rw [if_pos e]; rfl, by unfold turnN; rw [if_pos e]; rfl⟩
  · rw [hf, if_pos rfl] at e
    exact .inl ⟨rfl, e, by unfold turnL; rw [if_neg (by rw [e]; decide)], by unfold turnN; rw [if_neg (by rw [e]; decide)]⟩
theorem visit_upsK {ks s : List Int} {p : Nat → Bool} (v : TVal ks) (hs : isSt ks s = true) (hf : fullP p ks s = false) (w : Nat) : isSt ks (visit (upP p s) w) = true :=
  visit_st (up_st hs hf) (fun i hi => by have := v.at_ i hi; omega) w
theorem next_kept {ks s : List Int} (v : TVal ks) (hs : isSt ks s = true) {x : Int} (hx : x ∈ nextL ks s) :
    ∃ W : Nat, x = (W : Int) ∧ W < ks.length ∧ ∀ p, fullP p ks s = false ∧ SafeP (nxS ks) (visit (upP p s) W) := by
  unfold nextL at hx
  rw [if_neg (fun e => e (stErr_of v hs))] at hx
  unfold leadsL at hx
  cases hf : fullP allW ks s with
  | true => rw [hf] at hx; simp at hx
  | false =>
    rw [hf, if_neg (by simp)] at hx
    simp only [List.mem_map, List.mem_filter, List.mem_range, decide_eq_true_eq] at hx
    obtain ⟨W, ⟨h1, h2⟩, rfl⟩ := hx
    exact ⟨W, rfl, h1, fun p => ⟨full_le hf, ((up_le p s).visit W).safe (rowOf_neg.1 h2)⟩⟩
/-- one turn from a safe state, by the bits of those that pull -/
theorem turn_kept {ks s : List Int} {b : Nat} (v : TVal ks) (hs : isSt ks s = true) {x : Int} (hx : x ∈ nextL ks s) :
    ∃ t, turnErr ks s (bitsL ks.length b) x = 0 ∧ turnL ks s (bitsL ks.length b) x = t ∧ isSt ks t = true ∧ doomRErr ks t = 5 ∧ inR 0 ((ks.length : Int) - 1) x = true := by
  obtain ⟨W, rfl, hW, h⟩ := next_kept v hs hx
  obtain ⟨h1, h2⟩ := h fun i => (bitsL ks.length b).contains (i : Int)
  rcases turn_byK (b := b) v hs hW with ⟨e, _⟩ | ⟨_, e2, e3, _⟩
  · rw [h1] at e; cases e
  · have hst := visit_upsK v hs h1 W
    refine ⟨_, e2, e3, hst, ?_, inR_iff.2 (by omega)⟩
    rcases doomR_cases v hst with ⟨_, e, _⟩ | ⟨e, _⟩
    · exact absurd h2 e
    · exact e
/-- a state that is no fuller, a hall with no fewer Threads -/
theorem less_doom {ks s t : List Int} (v : TVal ks) (ht : isSt ks t = true) (h : leS t s) (hs : SafeP (nxS ks) s) : doomRErr ks t = 5 := by
  rcases doomR_cases v ht with ⟨_, e, _⟩ | ⟨e, _⟩
  · exact absurd (h.safe hs) e
  · exact e
theorem more_doom {ks kt s : List Int} (v : TVal kt) (hs : isSt ks s = true) (h : leS ks kt) (hsafe : SafeP (nxS ks) s) : doomRErr kt s = 5 := by
  have hst : isSt kt s = true := isSt_of (by rw [isSt_len hs, h.1]) fun i hi => by
    have h1 := isSt_at hs i (by rw [h.1]; exact hi)
    have h2 := h.2 i
    omega
  rcases doomR_cases v hst with ⟨_, e, _⟩ | ⟨e, _⟩
  · exact absurd (more_safe h hsafe) e
  · exact e
end Go.Proofs.Ytndgaklcnhoddaa
