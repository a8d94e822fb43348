/-
  What the statements' arguments hold: pairs of small numbers.
-/
import Derived.Test.YtndgaklcnhoddaaOp
namespace Go.Proofs.Ytndgaklcnhoddaa
open Go.ChangeShapes Go.WideShapes Go.ChangeAt Go.RowKit
section
variable {H : Type} {enc : TypeId × Value → H} {W : World} {sp : Nat → Bool} {held : Bool} {base b0 : Nat} {r : Reach}
set_option maxRecDepth 100000 in
theorem pairTrod {n : Nat} {row : List Value} {y : DataW H × List MemPlace} (hl : row.length = 2) (h : DataW.trod enc Try.prog W base sp held n 57 row = some y) : ∃ a b : Int, row = [.int .u8 a, .int .u8 b] ∧ (Lit.int .u8 a).wf = true ∧ (Lit.int .u8 b).wf = true := by
  have hu := Try.underlying57
  have hc : Try.prog.cellsOf 5 = 1 := by kernel_rfl
  match row, hl with
  | [v0, v1], _ =>
    obtain ⟨xs, m, _, _, _, hl, hel⟩ := DataW.trod_array hu h
    have h0 := hel 0 (by omega)
    have h1 := hel 1 (by omega)
    simp [hc] at h0 h1
    obtain ⟨x0, e0⟩ : ∃ x, xs[0]? = some x := ⟨xs[0]'(by omega), List.getElem?_eq_getElem _⟩
    obtain ⟨x1, e1⟩ : ∃ x, xs[1]? = some x := ⟨xs[1]'(by omega), List.getElem?_eq_getElem _⟩
    rw [e0] at h0
    rw [e1] at h1
    obtain ⟨a, ea, _, wa⟩ := DataW.trod_int Try.underlying5 h0
    obtain ⟨b, eb, _, wb⟩ := DataW.trod_int Try.underlying5 h1
    cases ea; cases eb
    exact ⟨a, b, rfl, wa, wb⟩
def pairCells (x : Int × Int) : List Value := [.int .u8 x.1, .int .u8 x.2]
set_option maxRecDepth 100000 in
/-- pairs of small numbers that are handed in -/
theorem openPairs8 {v : Value} {d : DataW H} {p : List MemPlace} (hv : Value.okWide Try.prog W r b0 55 v) (h : DataW.Trod enc Try.prog W base sp held 55 v d p) :
    ∃ l : List (Int × Int), IsRows W 2 v (l.map pairCells) ∧ ∀ x ∈ l, (Lit.int .u8 x.1).wf = true ∧ (Lit.int .u8 x.2).wf = true := by
  obtain ⟨a0, len, cap, rfl⟩ := okWide_slice Try.underlying55 hv
  obtain ⟨n, hn⟩ := h
  obtain ⟨rows, hr, hx⟩ := openRows (n := n) (y := (d, p)) Try.underlying55 (sz := 2) (by kernel_rfl) (by omega) (by simpa [Value.cells] using hn)
  have key : ∀ rs : List (List Value), (∀ row ∈ rs, row.length = 2 ∧ ∃ m y', DataW.trod enc Try.prog W base sp held m 57 row = some y') → ∃ l : List (Int × Int), rs = l.map pairCells ∧ ∀ x ∈ l, (Lit.int .u8 x.1).wf = true ∧ (Lit.int .u8 x.2).wf = true := by
    intro rs
    induction rs with
    | nil => exact fun _ => ⟨[], rfl, by simp⟩
    | cons row rs ih =>
      intro hh
      obtain ⟨l, rfl, hl⟩ := ih fun r hr => hh r (by simp [hr])
      obtain ⟨hlen, m, y', ht⟩ := hh row (by simp)
      obtain ⟨a, b, rfl, wa, wb⟩ := pairTrod hlen ht
      exact ⟨(a, b) :: l, rfl, fun y hy => by rcases List.mem_cons.1 hy with rfl | hy; exact ⟨wa, wb⟩; exact hl y hy⟩
  obtain ⟨l, rfl, hl⟩ := key rows hx
  exact ⟨l, hr, hl⟩
end
end Go.Proofs.Ytndgaklcnhoddaa
