/-
  Small definitions and lemmas that the walks of this seat share: where the first good element of a list stands, slices of numbers and of structs as they lie in memory, and that memory below a block stays.
-/
import Derived.Test.YtgcldgchhdjnhaaProg
import Derived.Test.YtgcldgchhdjnhaaPlain
import Derived.WalkKit
import Derived.WalkSpells
import Derived.WalkLawsBesides
import Derived.BigQuiet
import Derived.Deep.QuietTactic
import Derived.Lib.Hide
namespace Go.Proofs.Ytgcldgchhdjnhaa
open Go.RowKit

/-- where the first good element stands, -1 if none is -/
def fidx {α : Type} (p : α → Bool) (l : List α) : Int := match l.findIdx? p with | some i => (i : Int) | none => -1
theorem fidx_none {α : Type} {p : α → Bool} {l : List α} (h : ∀ x ∈ l, p x = false) : fidx p l = -1 := by
  have : l.findIdx? p = none := by rw [List.findIdx?_eq_none_iff]; intro x hx; exact h x (by simpa using hx)
  simp [fidx, this]
theorem fidx_at {α : Type} {p : α → Bool} {l : List α} {k : Nat} (hk : k < l.length) (h : ∀ x ∈ l.take k, p x = false) (hp : p l[k] = true) : fidx p l = k := by
  have : l.findIdx? p = some k := by
    rw [List.findIdx?_eq_some_iff_getElem]
    refine ⟨hk, hp, fun j hj => ?_⟩
    have := h l[j] (by rw [List.mem_take_iff_getElem]; exact ⟨j, by omega, rfl⟩)
    simp [this]
  simp [fidx, this]
theorem fidx_any {α : Type} (p : α → Bool) (l : List α) : decide (0 ≤ fidx p l) = l.any p := by
  unfold fidx
  cases h : l.findIdx? p with
  | none => rw [List.findIdx?_eq_none_iff] at h; simp; exact h
  | some i =>
    rw [List.findIdx?_eq_some_iff_getElem] at h
    obtain ⟨h1, h2, _⟩ := h
    simp; exact ⟨_, List.getElem_mem h1, h2⟩
theorem take_ext {α : Type} {p : α → Bool} {l : List α} {k : Nat} (hk : k < l.length) (h : ∀ x ∈ l.take k, p x = false) (hp : p l[k] = false) : ∀ x ∈ l.take (k + 1), p x = false := by
  intro x hx
  rw [List.take_succ_eq_append_getElem hk, List.mem_append] at hx
  rcases hx with hx | hx
  · exact h x hx
  · simp at hx; rw [hx]; exact hp
theorem take_all {α : Type} {p : α → Bool} {l : List α} {k : Nat} (hk : ¬ k < l.length) (h : ∀ x ∈ l.take k, p x = false) : ∀ x ∈ l, p x = false := by
  rwa [List.take_of_length_le (by omega)] at h
theorem ret_int {k : IntKind} {a b : Int} (h : a = b) : Ending.returned (.int k a) = .returned (.int k b) := by rw [h]
theorem ret_bool {a b : Bool} (h : a = b) : Ending.returned (.bool a) = .returned (.bool b) := by rw [h]
theorem ret_ii {x y x' y' : Int} (h1 : x = x') (h2 : y = y') : Ending.returned (.tuple #[.int .i64 x, .int .i64 y]) = .returned (.tuple #[.int .i64 x', .int .i64 y']) := by rw [h1, h2]
theorem ret_iii {x y z x' y' z' : Int} (h1 : x = x') (h2 : y = y') (h3 : z = z') : Ending.returned (.tuple #[.int .i64 x, .int .i64 y, .int .i64 z]) = .returned (.tuple #[.int .i64 x', .int .i64 y', .int .i64 z']) := by rw [h1, h2, h3]
theorem ret_iib {x y x' y' : Int} {z z' : Bool} (h1 : x = x') (h2 : y = y') (h3 : z = z') : Ending.returned (.tuple #[.int .i64 x, .int .i64 y, .bool z]) = .returned (.tuple #[.int .i64 x', .int .i64 y', .bool z']) := by rw [h1, h2, h3]

/-- below the blocks that there are, nothing has turned -/
abbrev Ext (w w' : World) : Prop := Below w.heap.size w w'
theorem Ext.trans' {a b c : World} (h : Ext a b) (k : Ext b c) : Ext a c := Below.trans h (k.mono h.size)
theorem Ext.al {w W : World} (h : Ext w W) (o : Obj) : Ext w (W.alloc o) := Below.alloc h h.size o
theorem Ext.dr {w W : World} (h : Ext w W) : Ext w W.drew := Below.drew h
theorem Ext.drN {w W : World} (h : Ext w W) (n : Nat) : Ext w (W.drewN n) := ⟨h.os, h.tape, h.output, h.size, h.block⟩
theorem bcell {B : Nat} {W w1 : World} (hb : Below B W w1) : (∀ b o, b < B → w1.cell? ⟨b, o, none⟩ = W.cell? ⟨b, o, none⟩) ∧ (∀ b o, b < B → w1.frozen? ⟨b, o, none⟩ = W.frozen? ⟨b, o, none⟩) :=
  ⟨fun b o h => hb.cell (p := ⟨b, o, none⟩) h, fun b o h => hb.frozen (p := ⟨b, o, none⟩) h⟩
theorem cell_ext {w w' : World} (h : Ext w w') {a : Addr} {v : Value} (hc : w.cell? a = some v) : w'.cell? a = some v :=
  (h.cell (World.block_lt_of_cell? w a hc)).trans hc
theorem cell_below {B : Nat} {w w' : World} (h : Below B w w') {a : Addr} (ha : a.block < B) {v : Value} (hc : w.cell? a = some v) : w'.cell? a = some v :=
  (h.cell ha).trans hc

/-- the cells of rows of 'sz' cells each, one behind the other -/
def RowsAt (w : World) (sz b off : Nat) (rows : List (List Value)) : Prop :=
  ∀ i (h : i < rows.length) j (hj : j < rows[i].length), w.cell? ⟨b, off + i * sz + j, none⟩ = some rows[i][j]
/-- a slice of such rows -/
def IsRows (w : World) (sz : Nat) (v : Value) (rows : List (List Value)) : Prop :=
  ∃ sa cap, v = .slice sa rows.length cap ∧ rows.length ≤ cap ∧ cap ≤ 9223372036854775807 ∧ (rows = [] ∨ ∃ b off, sa = some ⟨b, off, none⟩ ∧ RowsAt w sz b off rows)
theorem RowsAt.ext {w w' : World} (h : Ext w w') {sz b off : Nat} {rows : List (List Value)} (hr : RowsAt w sz b off rows) : RowsAt w' sz b off rows :=
  fun i hi j hj => cell_ext h (hr i hi j hj)
theorem IsRows.ext {w w' : World} (h : Ext w w') {sz : Nat} {v : Value} {rows : List (List Value)} (hr : IsRows w sz v rows) : IsRows w' sz v rows := by
  obtain ⟨sa, cap, h1, h2, h3, h4⟩ := hr
  refine ⟨sa, cap, h1, h2, h3, ?_⟩
  rcases h4 with h4 | ⟨b, off, e, h4⟩
  · exact .inl h4
  · exact .inr ⟨b, off, e, h4.ext h⟩
/-- a slice of numbers of one kind -/
def IsInts (w : World) (k : IntKind) (v : Value) (l : List Int) : Prop := IsRows w 1 v (l.map fun n => [.int k n])
theorem IsInts.ext {w w' : World} (h : Ext w w') {k : IntKind} {v : Value} {l : List Int} (hr : IsInts w k v l) : IsInts w' k v l := IsRows.ext h hr
/-- opened: what the walks use -/
theorem IsInts.spec {w : World} {k : IntKind} {v : Value} {l : List Int} (h : IsInts w k v l) :
    ∃ sa cap, v = .slice sa l.length cap ∧ l.length ≤ cap ∧ cap ≤ 9223372036854775807 ∧ (l = [] ∨ ∃ b off, sa = some ⟨b, off, none⟩ ∧ ∀ i, (h : i < l.length) → w.cell? ⟨b, off + i, none⟩ = some (.int k l[i])) := by
  obtain ⟨sa, cap, h1, h2, h3, h4⟩ := h
  refine ⟨sa, cap, by simpa using h1, by simpa using h2, h3, ?_⟩
  rcases h4 with h4 | ⟨b, off, e, h4⟩
  · exact .inl (by simpa using h4)
  · refine .inr ⟨b, off, e, fun i hi => ?_⟩
    have := h4 i (by simpa using hi) 0 (by simp)
    simpa using this
theorem IsInts.mk {w : World} {k : IntKind} {l : List Int} {b off cap : Nat} (h2 : l.length ≤ cap) (h3 : cap ≤ 9223372036854775807) (h : ∀ i, (h : i < l.length) → w.cell? ⟨b, off + i, none⟩ = some (.int k l[i])) :
    IsInts w k (.slice (some ⟨b, off, none⟩) l.length cap) l := by
  refine ⟨_, cap, by simp, by simpa using h2, h3, .inr ⟨b, off, rfl, fun i hi j hj => ?_⟩⟩
  simp only [List.length_map] at hi
  have hj0 : j = 0 := by simp at hj; omega
  subst hj0
  simpa using h i hi
end Go.Proofs.Ytgcldgchhdjnhaa
