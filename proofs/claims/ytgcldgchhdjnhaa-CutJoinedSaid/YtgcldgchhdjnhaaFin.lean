/-
  The contracts of Way, Ring, Wrong and Kind, what they ask of plain mathematics paid.
-/
import Derived.Test.YtgcldgchhdjnhaaLawF
import Derived.Test.YtgcldgchhdjnhaaWays
import Derived.Test.YtgcldgchhdjnhaaMath
namespace Go.Proofs.Ytgcldgchhdjnhaa
open Go.RowKit Go.Shelf

/-- the way that is returned -/
def WayOk (h : Hall) (f t : Int) (l : List Stp) : Prop :=
  (wayErr h f t = 0 → IsW h f l t ∧ (l.map (cost h)).sum = (leastM h f.toNat).1.sums t.toNat ∧ l.length ≤ 11) ∧ (wayErr h f t ≠ 0 → l = [])
def RingR (h : Hall) (l : List Stp) : Prop := (ringErr h = 0 → isRingM h l = true ∧ (∀ x ∈ l, okStp h x = true) ∧ l.length ≤ 12) ∧ (ringErr h ≠ 0 → l = [])
def RetWay (h : Hall) (f t : Int) (w : World) (e : Ending) (w' : World) : Prop := ∃ v l, e = .returned (.tuple #[v, .int .i64 (wayErr h f t)]) ∧ Ext w w' ∧ IsStps w' v l ∧ WayOk h f t l
def RetRing (h : Hall) (w : World) (e : Ending) (w' : World) : Prop := ∃ v l, e = .returned (.tuple #[v, .int .i64 (ringErr h)]) ∧ Ext w w' ∧ IsStps w' v l ∧ RingR h l
def RetWrong (h : Hall) (w : World) (e : Ending) (w' : World) : Prop := ∃ v, e = .returned (.tuple #[v, .int .i64 (chk h)]) ∧ Ext w w' ∧ IsInts w' .i64 v (wrongL h)
def RetTruth (h : Hall) (w : World) (e : Ending) (w' : World) : Prop := ∃ v, e = .returned (.tuple #[v, .int .i64 (truthErr h)]) ∧ Ext w w' ∧ IsInts w' .i64 v (truthL h)
theorem backs_len' (s : WSt) (K a : Nat) : (backs s K a).length = K := backs_len s K a
theorem wayErr_ok {h : Hall} {f t : Int} (e : wayErr h f t = 0) : Valid h ∧ 0 ≤ f ∧ f ≤ h.n ∧ 0 ≤ t ∧ t ≤ h.n ∧ (leastM h f.toNat).2 = true := by
  unfold wayErr at e
  by_cases ho : openE h [f, t] = 0
  · rw [if_neg (fun hh => hh ho)] at e
    obtain ⟨h1, h2, h3, h4, h5⟩ := open_places ho
    refine ⟨valid_of_chk h1, h2, h3, h4, h5, ?_⟩
    cases hl : (leastM h f.toNat).2 with
    | true => rfl
    | false => rw [hl] at e; simp at e
  · rw [if_pos ho] at e; exact absurd e ho
theorem way_fin (h : Hall) (sv : Value) (f t : Int) (w : World) (hs : IsCnts w sv h.cs) :
    Calls Try.prog 30 #[.agg #[.int .i64 h.n, .int .i64 h.most, sv], .int .i64 f, .int .i64 t] w (RetWay h f t w) := by
  refine (wayP_any h sv f t w hs fun e => ?_).mono ?_
  · obtain ⟨v, a1, a2, a3, a4, a5⟩ := wayErr_ok e
    obtain ⟨K, hK, hc, _⟩ := (leastM_low v (st := f.toNat) (by omega) a5).chain t.toNat (by omega)
    exact ⟨K, by omega, hc⟩
  · rintro e w' ⟨v, l, h1, h2, h3, h4, h5⟩
    refine ⟨v, l, h1, h2, h3, fun e => ?_, h5⟩
    obtain ⟨vv, a1, a2, a3, a4, a5⟩ := wayErr_ok e
    obtain ⟨K, hK, hc, rfl⟩ := h4 e
    obtain ⟨K', hK', hc', hw, hsum⟩ := (leastM_low vv (st := f.toNat) (by omega) a5).chain t.toNat (by omega)
    obtain rfl := chain_uniq hc hc'
    rw [Int.toNat_of_nonneg a1, Int.toNat_of_nonneg a3] at hw
    exact ⟨hw, hsum, by rw [List.length_reverse, backs_len]; exact hK'⟩
theorem ringErr_ok {h : Hall} (e : ringErr h = 0) : Valid h ∧ (leastM h 0).2 = false := by
  unfold ringErr at e
  by_cases hc : chk h = 0
  · rw [if_neg (fun hh => hh hc)] at e
    refine ⟨valid_of_chk hc, ?_⟩
    cases hl : (leastM h 0).2 with
    | false => rfl
    | true => rw [hl] at e; simp at e
  · rw [if_pos hc] at e; exact absurd e hc
theorem ring_fin (h : Hall) (sv : Value) (w : World) (hs : IsCnts w sv h.cs) :
    Calls Try.prog 36 #[.agg #[.int .i64 h.n, .int .i64 h.most, sv]] w (RetRing h w) := by
  refine (ringP_any h sv w hs fun e => ?_).mono ?_
  · obtain ⟨v, hl⟩ := ringErr_ok e
    exact (leastM_ring v hl).1
  · rintro e w' ⟨v, l, h1, h2, h3, h4, h5⟩
    refine ⟨v, l, h1, h2, h3, fun e => ?_, h5⟩
    obtain ⟨vv, hl⟩ := ringErr_ok e
    obtain ⟨K, hK, hc, rfl⟩ := h4 e
    obtain ⟨hK', hr, hok⟩ := (leastM_ring vv hl).2 K hc
    exact ⟨hr, hok, by rw [List.length_reverse, ringBack, List.length_cons, backs_len]; omega⟩
theorem wrong_fin (h : Hall) (sv : Value) (w : World) (hs : IsCnts w sv h.cs) :
    Calls Try.prog 39 #[.agg #[.int .i64 h.n, .int .i64 h.most, sv]] w (RetWrong h w) := wrong_any h sv w hs fun hc => fewestM_ne (valid_of_chk hc)
theorem kind_fin (h : Hall) (sv : Value) (c : Int) (w : World) (hs : IsCnts w sv h.cs) :
    Calls Try.prog 43 #[.agg #[.int .i64 h.n, .int .i64 h.most, sv], .int .i64 c] w fun e w' =>
      e = .returned (.tuple #[.int .i64 (kindN h c), .int .i64 (kindErr h c)]) ∧ Ext w w' := kind_any h sv c w hs fun hc => fewestM_ne (valid_of_chk hc)
theorem truth_fin (h : Hall) (sv : Value) (w : World) (hs : IsCnts w sv h.cs) :
    Calls Try.prog 19 #[.agg #[.int .i64 h.n, .int .i64 h.most, sv]] w (RetTruth h w) := truth_any h sv w hs

/-- a call at a world that W0 has grown to -/
theorem callW {P : Program} {f : FuncId} {args : Array Value} {W0 W : World} {g : Gr W0} {v : Value} {Q : Ending → World → Prop} (hW : Ext (grow W0 g) W) (h : Calls P f args W fun e w' => e = .returned v ∧ Ext W w')
    (k : ∀ g', Ext (grow W0 g) (grow W0 g') → Q (.returned v) (grow W0 g')) : Calls P f args W Q :=
  h.mono fun e w' ⟨he, hb⟩ => by
    have h1 := hW.trans' hb
    obtain ⟨g', rfl⟩ := grow_of (Ext.trans' (grow_below W0 g) h1)
    subst he
    exact k g' h1
theorem callWR {P : Program} {f : FuncId} {args : Array Value} {W0 W : World} {g : Gr W0} {Q : Ending → World → Prop} {R : Ending → World → Prop} (hW : Ext (grow W0 g) W) (h : Calls P f args W R) (hR : ∀ e w', R e w' → Ext W w')
    (k : ∀ e g', Ext (grow W0 g) (grow W0 g') → R e (grow W0 g') → Q e (grow W0 g')) : Calls P f args W Q :=
  h.mono fun e w' hr => by
    have h1 := hW.trans' (hR e w' hr)
    obtain ⟨g', rfl⟩ := grow_of (Ext.trans' (grow_below W0 g) h1)
    exact k e g' h1 hr
theorem RetWay.ext {h : Hall} {f t : Int} {w w' : World} {e : Ending} (r : RetWay h f t w e w') : Ext w w' := by obtain ⟨_, _, _, h, _⟩ := r; exact h
theorem RetRing.ext {h : Hall} {w w' : World} {e : Ending} (r : RetRing h w e w') : Ext w w' := by obtain ⟨_, _, _, h, _⟩ := r; exact h
theorem RetWrong.ext {h : Hall} {w w' : World} {e : Ending} (r : RetWrong h w e w') : Ext w w' := by obtain ⟨_, _, h, _⟩ := r; exact h
theorem RetTruth.ext {h : Hall} {w w' : World} {e : Ending} (r : RetTruth h w e w') : Ext w w' := by obtain ⟨_, _, h, _⟩ := r; exact h
theorem RetHall.ext {h : Hall} {w w' : World} {e : Ending} (r : RetHall h w e w') : Ext w w' := by obtain ⟨_, _, h, _⟩ := r; exact h
end Go.Proofs.Ytgcldgchhdjnhaa
