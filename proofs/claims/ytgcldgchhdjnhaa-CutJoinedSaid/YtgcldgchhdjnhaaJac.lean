/-
  The least sums, as the reference reckons them, in rounds: plain. And lists of numbers in a block.
-/
import Derived.Test.YtgcldgchhdjnhaaTruth
import Derived.Test.YtgcldgchhdjnhaaStepsR
namespace Go.Proofs.Ytgcldgchhdjnhaa
open Go.RowKit Go.Shelf

/-- numbers in a block, from its head on -/
def BlkI (W : World) (g : Nat) (l : List Int) : Prop := ∃ cur, W.heap[g]? = some (.cells cur 2 (0, 0)) ∧ l.length ≤ cur.size ∧ ∀ i, (h : i < l.length) → cur[i]? = some (.int .i64 l[i])
section
variable {W : World} {g : Nat} {l : List Int} (b : BlkI W g l)
include b
theorem BlkI.lt : g < W.heap.size := by obtain ⟨cur, h, _⟩ := b; exact (Array.getElem?_eq_some_iff.1 h).1
theorem BlkI.cell {i : Nat} (hi : i < l.length) : W.cell? ⟨g, i, none⟩ = some (.int .i64 l[i]) := by
  obtain ⟨cur, h1, _, h3⟩ := b
  rw [cell_of_row _ _ _ _ _ _ h1]; exact h3 i hi
theorem BlkI.free (o : Nat) : W.frozen? ⟨g, o, none⟩ = false := by
  obtain ⟨cur, h1, _⟩ := b
  simp [World.frozen?, h1]
theorem BlkI.of_heap {W' : World} (e : W'.heap[g]? = W.heap[g]?) : BlkI W' g l := by
  obtain ⟨cur, h1, h2⟩ := b
  exact ⟨cur, e.trans h1, h2⟩
theorem BlkI.ext {W' : World} (e : Ext W W') : BlkI W' g l := b.of_heap (e.block _ b.lt)
theorem BlkI.set {i : Nat} (hi : i < l.length) (v : Int) : BlkI (W.setCell ⟨g, i, none⟩ (.int .i64 v)) g (l.set i v) := by
  obtain ⟨cur, h1, h2, h3⟩ := b
  refine ⟨_, heap_setCell_row h1 _ _, by simpa using h2, fun j hj => ?_⟩
  have hj' : j < l.length := by simpa using hj
  rw [List.getElem_set]
  by_cases e : i = j
  · subst e; rw [set_on _ (by omega), if_pos rfl]
  · rw [set_off _ e, if_neg e]; exact h3 j hj'
theorem BlkI.other {o b' : Nat} (hne : b' ≠ g) (v : Value) : BlkI (W.setCell ⟨b', o, none⟩ v) g l := by
  refine b.of_heap ?_
  simp only [World.setCell, Array.getElem?_modify]
  rw [if_neg hne]
theorem BlkI.rows : RowsAt W 1 g 0 (l.map iRow) := fun i hi j hj => by
  have hj0 : j = 0 := by simp [iRow] at hj; omega
  subst hj0
  have hi' : i < l.length := by simpa using hi
  have := b.cell hi'
  simpa [iRow] using this
end
theorem Owns.blkI {W : World} {B g n cap : Nat} {l : List Int} (h : Owns W B 2 1 (.slice (some ⟨g, 0, none⟩) n cap) (l.map iRow)) (hn : n = l.length) : BlkI W g l := by
  subst hn
  have hrl : (l.map iRow).length = l.length := by simp
  obtain ⟨sa, cap', e1, _, _, h3⟩ := h.form
  rcases h.1.2 with ⟨e2, _⟩ | ⟨g', cap2, cur, e2, _, hg, hc, _, hs, _⟩
  · cases e2
  · simp only [Value.slice.injEq, Option.some.injEq, Addr.mk.injEq] at e2 e1
    obtain ⟨⟨rfl, _⟩, _, rfl⟩ := e2
    obtain ⟨rfl, _, rfl⟩ := e1
    refine ⟨cur, hg, by omega, fun i hi => ?_⟩
    rcases h3 with ⟨_, e3, _⟩ | ⟨g2, e3, _, _, hr, _⟩
    · cases e3
    · simp only [Option.some.injEq, Addr.mk.injEq] at e3
      obtain ⟨rfl, _⟩ := e3
      have := hr i (by rw [hrl]; exact hi) 0 (by simp [iRow])
      rw [cell_of_row _ _ _ _ _ _ hg] at this
      simpa [iRow] using this
theorem BlkI.isInts {W : World} {g cap n : Nat} {l : List Int} (b : BlkI W g l) (hn : n = l.length) (h1 : n ≤ cap) (h2 : cap ≤ 9223372036854775807) : IsInts W .i64 (.slice (some ⟨g, 0, none⟩) n cap) l := by
  subst hn
  exact IsInts.mk h1 h2 fun i hi => by rw [Nat.zero_add]; exact b.cell hi
end Go.Proofs.Ytgcldgchhdjnhaa
