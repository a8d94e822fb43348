/-
  '==' on arrays of numbers.
  The walk of least: the ways with the least sums from a place, or that there is a ring.
-/
import Derived.Test.YtgcldgchhdjnhaaBase
import Derived.ChangeKeysEq
import Derived.Laws.StructEq
import Derived.Test.YtgcldgchhdjnhaaSheet
import Derived.Test.YtgcldgchhdjnhaaPlain
namespace Go.Proofs.Ytgcldgchhdjnhaa
open Go.RowKit
theorem eqItems_int {P : Program} {e : TypeId} {k : IntKind} (he : P.plainKey e = true) (hu : P.underlying e = some (.int k)) (d n : Nat) (xs ys : Array Value) (f g : Nat → Int)
    (hx : ∀ i, i < n → xs[i]? = some (.int k (f i))) (hy : ∀ i, i < n → ys[i]? = some (.int k (g i))) (w : World) : ∀ is : List Nat, (∀ i ∈ is, i < n) → (Op.eqItems (d + 1) e 1 xs ys is).run P w = .ok (is.all fun i => f i == g i) w
  | [], _ => by simp [Op.eqItems]
  | i :: is, h => by
    have hi := h i (by simp)
    have ih := eqItems_int he hu d n xs ys f g hx hy w is (fun j hj => h j (by simp [hj]))
    have p1 := run_part_plain (P := P) w he (xs := xs) (off := i * 1) (v := .int k (f i)) (by simpa using hx i hi)
    have p2 := run_part_plain (P := P) w he (xs := ys) (off := i * 1) (v := .int k (g i)) (by simpa using hy i hi)
    simp only [Op.eqItems, Sem.run_bind, p1, p2, Result.andThen_ok, run_equalIn_int w d e k k (f i) (g i) hu]
    by_cases hfg : f i = g i
    · simp [hfg, ih]
    · simp [hfg]
/-- two arrays of numbers -/
theorem run_eql_ints {P : Program} {t e : TypeId} {k : IntKind} {n : Nat} {info : TypeInfo} (ht : P.underlying t = some (.array n e)) (hi : P.info? e = some info) (hc : P.cellsOf e = 1) (he : P.plainKey e = true) (hu : P.underlying e = some (.int k)) (xs ys : Array Value) (f g : Nat → Int)
    (hx : ∀ i, i < n → xs[i]? = some (.int k (f i))) (hy : ∀ i, i < n → ys[i]? = some (.int k (g i))) (w : World) : (binOp .eql t (.agg xs) (.agg ys)).run P w = .ok (.bool ((List.range n).all fun i => f i == g i)) w := by
  rw [run_eql_struct]
  rw [run_equalIn_array w 9999 xs ys ht hi, hc, eqItems_int he hu 9998 n xs ys f g hx hy w _ (by simp)]
  rfl
end Go.Proofs.Ytgcldgchhdjnhaa
namespace Go.Proofs.Ytgcldgchhdjnhaa
open Go.RowKit Go.Shelf

/-- a sheet: a hall and the map of its cheapest steps -/
structure SheetAt (W : World) (b r : Nat) (h : Hall) (sv : Value) : Prop where
  c0 : W.cell? ⟨b, 0, none⟩ = some (.int .i64 h.n)
  c1 : W.cell? ⟨b, 1, none⟩ = some (.int .i64 h.most)
  c2 : W.cell? ⟨b, 2, none⟩ = some sv
  c3 : W.cell? ⟨b, 3, none⟩ = some (.map (some r))
  cs : IsCnts W sv h.cs
  m : MapIs kv av W r (arcs h)
theorem SheetAt.ext {W W' : World} {b r : Nat} {h : Hall} {sv : Value} (s : SheetAt W b r h sv) (e : Ext W W') : SheetAt W' b r h sv :=
  ⟨cell_ext e s.c0, cell_ext e s.c1, cell_ext e s.c2, cell_ext e s.c3, s.cs.ext e, s.m.ext e⟩
theorem SheetAt.at {W : World} {b r : Nat} {h : Hall} {sv : Value} (s : SheetAt W b r h sv) : HallAt W b h sv := ⟨s.c0, s.c1, s.c2, s.cs⟩

/-- the ways, as they lie in memory: a block of their own -/
structure WaysB (cur : Array Value) (s : WSt) : Prop where
  size : cur.size = 56
  sums : ∀ i, i < 11 → cur[i]? = some (.int .i64 (s.sums i))
  bef : ∀ i, i < 11 → cur[11 + i]? = some (.int .i64 (s.before i))
  by0 : ∀ i, i < 11 → cur[22 + i * 3]? = some (.bool (s.by_ i).win)
  by1 : ∀ i, i < 11 → cur[22 + i * 3 + 1]? = some (.int .i64 (s.by_ i).idx)
  by2 : ∀ i, i < 11 → cur[22 + i * 3 + 2]? = some (.bool (s.by_ i).back)
  ring : cur[55]? = some (.int .i64 s.ringed)
def WaysAt (W : World) (b : Nat) (s : WSt) : Prop := ∃ cur, W.heap[b]? = some (.cells cur 101 (0, 0)) ∧ WaysB cur s
theorem WaysAt.of_heap {W W' : World} {b : Nat} {s : WSt} (w : WaysAt W b s) (e : W'.heap[b]? = W.heap[b]?) : WaysAt W' b s := by
  obtain ⟨cur, h1, h2⟩ := w
  exact ⟨cur, e.trans h1, h2⟩
section
variable {W : World} {b : Nat} {s : WSt} (w : WaysAt W b s)
include w
theorem WaysAt.lt : b < W.heap.size := by obtain ⟨cur, h1, _⟩ := w; exact (Array.getElem?_eq_some_iff.1 h1).1
theorem WaysAt.ext {W' : World} (e : Ext W W') : WaysAt W' b s := w.of_heap (e.block b w.lt)
theorem WaysAt.sum {i : Nat} (hi : i < 11) : W.cell? ⟨b, i, none⟩ = some (.int .i64 (s.sums i)) := by
  obtain ⟨cur, h1, h2⟩ := w; rw [cell_of_row W b i cur _ _ h1]; exact h2.sums i hi
theorem WaysAt.befo {i : Nat} (hi : i < 11) : W.cell? ⟨b, 11 + i, none⟩ = some (.int .i64 (s.before i)) := by
  obtain ⟨cur, h1, h2⟩ := w; rw [cell_of_row W b _ cur _ _ h1]; exact h2.bef i hi
theorem WaysAt.b0 {i : Nat} (hi : i < 11) : W.cell? ⟨b, 22 + i * 3, none⟩ = some (.bool (s.by_ i).win) := by
  obtain ⟨cur, h1, h2⟩ := w; rw [cell_of_row W b _ cur _ _ h1]; exact h2.by0 i hi
theorem WaysAt.b1 {i : Nat} (hi : i < 11) : W.cell? ⟨b, 22 + i * 3 + 1, none⟩ = some (.int .i64 (s.by_ i).idx) := by
  obtain ⟨cur, h1, h2⟩ := w; rw [cell_of_row W b _ cur _ _ h1]; exact h2.by1 i hi
theorem WaysAt.b2 {i : Nat} (hi : i < 11) : W.cell? ⟨b, 22 + i * 3 + 2, none⟩ = some (.bool (s.by_ i).back) := by
  obtain ⟨cur, h1, h2⟩ := w; rw [cell_of_row W b _ cur _ _ h1]; exact h2.by2 i hi
theorem WaysAt.rin : W.cell? ⟨b, 55, none⟩ = some (.int .i64 s.ringed) := by
  obtain ⟨cur, h1, h2⟩ := w; rw [cell_of_row W b _ cur _ _ h1]; exact h2.ring
theorem WaysAt.free (o : Nat) : W.frozen? ⟨b, o, none⟩ = false := by
  obtain ⟨cur, h1, h2⟩ := w; simp [World.frozen?, h1]
end
theorem set_off {cur : Array Value} {o i : Nat} (v : Value) (h : o ≠ i) : (cur.setIfInBounds o v)[i]? = cur[i]? := by
  rw [Array.getElem?_setIfInBounds, if_neg h]
theorem set_on {cur : Array Value} {o : Nat} (v : Value) (h : o < cur.size) : (cur.setIfInBounds o v)[o]? = some v := by
  rw [Array.getElem?_setIfInBounds, if_pos rfl, if_pos h]
theorem WaysB.sum {cur : Array Value} {s : WSt} (h : WaysB cur s) {i : Nat} (hi : i < 11) (v : Int) : WaysB (cur.setIfInBounds i (.int .i64 v)) { s with sums := upd s.sums i v } where
  size := by simp [h.size]
  sums := fun j hj => by
    by_cases e : i = j
    · subst e; rw [set_on _ (by rw [h.size]; omega)]; simp [upd]
    · rw [set_off _ e, h.sums j hj]; simp [upd, Ne.symm e]
  bef := fun j hj => by rw [set_off _ (by omega)]; exact h.bef j hj
  by0 := fun j hj => by rw [set_off _ (by omega)]; exact h.by0 j hj
  by1 := fun j hj => by rw [set_off _ (by omega)]; exact h.by1 j hj
  by2 := fun j hj => by rw [set_off _ (by omega)]; exact h.by2 j hj
  ring := by rw [set_off _ (by omega)]; exact h.ring
theorem WaysB.befo {cur : Array Value} {s : WSt} (h : WaysB cur s) {i : Nat} (hi : i < 11) (v : Int) : WaysB (cur.setIfInBounds (11 + i) (.int .i64 v)) { s with before := upd s.before i v } where
  size := by simp [h.size]
  sums := fun j hj => by rw [set_off _ (by omega)]; exact h.sums j hj
  bef := fun j hj => by
    by_cases e : i = j
    · subst e; rw [set_on _ (by rw [h.size]; omega)]; simp [upd]
    · rw [set_off _ (by omega), h.bef j hj]; simp [upd, Ne.symm e]
  by0 := fun j hj => by rw [set_off _ (by omega)]; exact h.by0 j hj
  by1 := fun j hj => by rw [set_off _ (by omega)]; exact h.by1 j hj
  by2 := fun j hj => by rw [set_off _ (by omega)]; exact h.by2 j hj
  ring := by rw [set_off _ (by omega)]; exact h.ring
theorem WaysB.stp {cur : Array Value} {s : WSt} (h : WaysB cur s) {i : Nat} (hi : i < 11) (x : Stp) :
    WaysB (((cur.setIfInBounds (22 + i * 3) (.bool x.win)).setIfInBounds (22 + i * 3 + 1) (.int .i64 x.idx)).setIfInBounds (22 + i * 3 + 2) (.bool x.back)) { s with by_ := upd s.by_ i x } where
  size := by simp [h.size]
  sums := fun j hj => by rw [set_off _ (by omega), set_off _ (by omega), set_off _ (by omega)]; exact h.sums j hj
  bef := fun j hj => by rw [set_off _ (by omega), set_off _ (by omega), set_off _ (by omega)]; exact h.bef j hj
  by0 := fun j hj => by
    by_cases e : i = j
    · subst e; rw [set_off _ (by omega), set_off _ (by omega), set_on _ (by rw [h.size]; omega)]; simp [upd]
    · rw [set_off _ (by omega), set_off _ (by omega), set_off _ (by omega), h.by0 j hj]; simp [upd, Ne.symm e]
  by1 := fun j hj => by
    by_cases e : i = j
    · subst e; rw [set_off _ (by omega), set_on _ (by simp [h.size]; omega)]; simp [upd]
    · rw [set_off _ (by omega), set_off _ (by omega), set_off _ (by omega), h.by1 j hj]; simp [upd, Ne.symm e]
  by2 := fun j hj => by
    by_cases e : i = j
    · subst e; rw [set_on _ (by simp [h.size]; omega)]; simp [upd]
    · rw [set_off _ (by omega), set_off _ (by omega), set_off _ (by omega), h.by2 j hj]; simp [upd, Ne.symm e]
  ring := by rw [set_off _ (by omega), set_off _ (by omega), set_off _ (by omega)]; exact h.ring
theorem WaysB.rin {cur : Array Value} {s : WSt} (h : WaysB cur s) (v : Int) : WaysB (cur.setIfInBounds 55 (.int .i64 v)) { s with ringed := v } where
  size := by simp [h.size]
  sums := fun j hj => by rw [set_off _ (by omega)]; exact h.sums j hj
  bef := fun j hj => by rw [set_off _ (by omega)]; exact h.bef j hj
  by0 := fun j hj => by rw [set_off _ (by omega)]; exact h.by0 j hj
  by1 := fun j hj => by rw [set_off _ (by omega)]; exact h.by1 j hj
  by2 := fun j hj => by rw [set_off _ (by omega)]; exact h.by2 j hj
  ring := by rw [set_on _ (by rw [h.size]; omega)]
theorem heap_setCell_row {W : World} {b : Nat} {cur : Array Value} {t : TypeId} (h : W.heap[b]? = some (.cells cur t (0, 0))) (o : Nat) (v : Value) :
    (W.setCell ⟨b, o, none⟩ v).heap[b]? = some (.cells (cur.setIfInBounds o v) t (0, 0)) := by
  simp [World.setCell, Array.getElem?_modify, h]

def zeroW : Array Value := #[.int .i64 0, .int .i64 0, .int .i64 0, .int .i64 0, .int .i64 0, .int .i64 0, .int .i64 0, .int .i64 0, .int .i64 0, .int .i64 0, .int .i64 0, .int .i64 0, .int .i64 0, .int .i64 0, .int .i64 0, .int .i64 0, .int .i64 0, .int .i64 0, .int .i64 0, .int .i64 0, .int .i64 0, .int .i64 0, .bool false, .int .i64 0, .bool false, .bool false, .int .i64 0, .bool false, .bool false, .int .i64 0, .bool false, .bool false, .int .i64 0, .bool false, .bool false, .int .i64 0, .bool false, .bool false, .int .i64 0, .bool false, .bool false, .int .i64 0, .bool false, .bool false, .int .i64 0, .bool false, .bool false, .int .i64 0, .bool false, .bool false, .int .i64 0, .bool false, .bool false, .int .i64 0, .bool false, .int .i64 0]
theorem waysB_zero : WaysB zeroW ⟨fun _ => 0, fun _ => 0, fun _ => ⟨false, 0, false⟩, 0⟩ where
  size := rfl
  sums := fun i hi => match i, hi with | 0, _ => rfl | 1, _ => rfl | 2, _ => rfl | 3, _ => rfl | 4, _ => rfl | 5, _ => rfl | 6, _ => rfl | 7, _ => rfl | 8, _ => rfl | 9, _ => rfl | 10, _ => rfl | n + 11, h => absurd h (by omega)
  bef := fun i hi => match i, hi with | 0, _ => rfl | 1, _ => rfl | 2, _ => rfl | 3, _ => rfl | 4, _ => rfl | 5, _ => rfl | 6, _ => rfl | 7, _ => rfl | 8, _ => rfl | 9, _ => rfl | 10, _ => rfl | n + 11, h => absurd h (by omega)
  by0 := fun i hi => match i, hi with | 0, _ => rfl | 1, _ => rfl | 2, _ => rfl | 3, _ => rfl | 4, _ => rfl | 5, _ => rfl | 6, _ => rfl | 7, _ => rfl | 8, _ => rfl | 9, _ => rfl | 10, _ => rfl | n + 11, h => absurd h (by omega)
  by1 := fun i hi => match i, hi with | 0, _ => rfl | 1, _ => rfl | 2, _ => rfl | 3, _ => rfl | 4, _ => rfl | 5, _ => rfl | 6, _ => rfl | 7, _ => rfl | 8, _ => rfl | 9, _ => rfl | 10, _ => rfl | n + 11, h => absurd h (by omega)
  by2 := fun i hi => match i, hi with | 0, _ => rfl | 1, _ => rfl | 2, _ => rfl | 3, _ => rfl | 4, _ => rfl | 5, _ => rfl | 6, _ => rfl | 7, _ => rfl | 8, _ => rfl | 9, _ => rfl | 10, _ => rfl | n + 11, h => absurd h (by omega)
  ring := rfl
def fillS (k : Nat) : WSt := ⟨fun i => if i < k then nowh else 0, fun _ => 0, fun _ => ⟨false, 0, false⟩, 0⟩
theorem fillS_succ (k : Nat) : ({ fillS k with sums := upd (fillS k).sums k nowh } : WSt) = fillS (k + 1) := by
  simp only [fillS, WSt.mk.injEq, and_true]
  funext i
  simp only [upd]
  by_cases h : i = k
  · rw [if_pos h, if_pos (by omega)]
  · rw [if_neg h]
    by_cases h2 : i < k
    · rw [if_pos h2, if_pos (by omega)]
    · rw [if_neg h2, if_neg (by omega)]
theorem WaysAt.cong {W : World} {b : Nat} {s t : WSt} (w : WaysAt W b s) (h1 : ∀ i, i < 11 → s.sums i = t.sums i) (h2 : ∀ i, i < 11 → s.before i = t.before i) (h3 : ∀ i, i < 11 → s.by_ i = t.by_ i) (h4 : s.ringed = t.ringed) : WaysAt W b t := by
  obtain ⟨cur, hc, hw⟩ := w
  exact ⟨cur, hc, hw.size, fun i hi => by rw [← h1 i hi]; exact hw.sums i hi, fun i hi => by rw [← h2 i hi]; exact hw.bef i hi, fun i hi => by rw [← h3 i hi]; exact hw.by0 i hi,
    fun i hi => by rw [← h3 i hi]; exact hw.by1 i hi, fun i hi => by rw [← h3 i hi]; exact hw.by2 i hi, by rw [← h4]; exact hw.ring⟩

theorem ways_world {w W : World} {σ : WSt} {q : Nat} (hq : q < 11) (hE : Ext w W) (hw : WaysAt W w.heap.size σ) (X : Obj) (m : Nat) (sv p rg : Int) (x : Stp) :
    Ext w (((((((W.alloc X).drewN m).setCell ⟨w.heap.size, q, none⟩ (.int .i64 sv)).setCell ⟨w.heap.size, 11 + q, none⟩ (.int .i64 p)).setCell ⟨w.heap.size, 22 + q * 3, none⟩ (.bool x.win)).setCell ⟨w.heap.size, 22 + q * 3 + 1, none⟩ (.int .i64 x.idx)).setCell ⟨w.heap.size, 22 + q * 3 + 2, none⟩ (.bool x.back) |>.setCell ⟨w.heap.size, 55, none⟩ (.int .i64 rg)) ∧
    W.heap.size ≤ (((((((W.alloc X).drewN m).setCell ⟨w.heap.size, q, none⟩ (.int .i64 sv)).setCell ⟨w.heap.size, 11 + q, none⟩ (.int .i64 p)).setCell ⟨w.heap.size, 22 + q * 3, none⟩ (.bool x.win)).setCell ⟨w.heap.size, 22 + q * 3 + 1, none⟩ (.int .i64 x.idx)).setCell ⟨w.heap.size, 22 + q * 3 + 2, none⟩ (.bool x.back) |>.setCell ⟨w.heap.size, 55, none⟩ (.int .i64 rg)).heap.size ∧
    (∀ b o v, b ≠ w.heap.size → W.cell? ⟨b, o, none⟩ = some v → (((((((W.alloc X).drewN m).setCell ⟨w.heap.size, q, none⟩ (.int .i64 sv)).setCell ⟨w.heap.size, 11 + q, none⟩ (.int .i64 p)).setCell ⟨w.heap.size, 22 + q * 3, none⟩ (.bool x.win)).setCell ⟨w.heap.size, 22 + q * 3 + 1, none⟩ (.int .i64 x.idx)).setCell ⟨w.heap.size, 22 + q * 3 + 2, none⟩ (.bool x.back) |>.setCell ⟨w.heap.size, 55, none⟩ (.int .i64 rg)).cell? ⟨b, o, none⟩ = some v) ∧
    WaysAt (((((((W.alloc X).drewN m).setCell ⟨w.heap.size, q, none⟩ (.int .i64 sv)).setCell ⟨w.heap.size, 11 + q, none⟩ (.int .i64 p)).setCell ⟨w.heap.size, 22 + q * 3, none⟩ (.bool x.win)).setCell ⟨w.heap.size, 22 + q * 3 + 1, none⟩ (.int .i64 x.idx)).setCell ⟨w.heap.size, 22 + q * 3 + 2, none⟩ (.bool x.back) |>.setCell ⟨w.heap.size, 55, none⟩ (.int .i64 rg)) w.heap.size
      ⟨upd σ.sums q sv, upd σ.before q p, upd σ.by_ q x, rg⟩ := by
  have hbw := hw.lt
  have hA : Ext W ((W.alloc X).drewN m) := Ext.drN (Ext.al (Below.refl _ _) _) _
  generalize (W.alloc X).drewN m = V at hA ⊢
  have hV : Ext w V := hE.trans' hA
  have hk : ∀ (A : World) (o : Nat) (v : Value), Kept (fun k => k ≠ w.heap.size) V A → Kept (fun k => k ≠ w.heap.size) V (A.setCell ⟨w.heap.size, o, none⟩ v) := fun A o v h => h.setCell (p := ⟨w.heap.size, o, none⟩) (fun _ hne => hne rfl) v
  have hb : ∀ (A : World) (o : Nat) (v : Value), Ext w A → Ext w (A.setCell ⟨w.heap.size, o, none⟩ v) := fun A o v h => h.setCell (p := ⟨w.heap.size, o, none⟩) (Nat.le_refl _) v
  have hkA := hk _ 55 (.int .i64 rg) (hk _ (22 + q * 3 + 2) (.bool x.back) (hk _ (22 + q * 3 + 1) (.int .i64 x.idx) (hk _ (22 + q * 3) (.bool x.win) (hk _ (11 + q) (.int .i64 p) (hk _ q (.int .i64 sv) (Kept.refl _ V))))))
  refine ⟨hb _ _ _ (hb _ _ _ (hb _ _ _ (hb _ _ _ (hb _ _ _ (hb _ _ _ hV))))), Nat.le_trans hA.size hkA.size, fun b o v hne hc => hkA.cell (p := ⟨b, o, none⟩) (cell_ext hA hc) hne, ?_⟩
  obtain ⟨cur, hc, hw⟩ := hw.ext hA
  exact ⟨_, heap_setCell_row (heap_setCell_row (heap_setCell_row (heap_setCell_row (heap_setCell_row (heap_setCell_row hc _ _) _ _) _ _) _ _) _ _) _ _, (((hw.sum hq _).befo hq _).stp hq x).rin _⟩

set_option maxRecDepth 100000 in
set_option maxHeartbeats 2000000 in
theorem least_any (h : Hall) (sv : Value) (v : Valid h) (start : Nat) (hst : (start : Int) ≤ h.n) (b r : Nat) (w : World) (hs : SheetAt w b r h sv) :
    Calls Try.prog 64 #[.pointer (some ⟨b, 0, none⟩), .int .i64 start] w fun e w' =>
      e = .returned (.tuple #[.pointer (some ⟨w.heap.size, 0, none⟩), .bool (leastM h start).2]) ∧ Ext w w' ∧ WaysAt w' w.heap.size (leastM h start).1 := by
  have n1 := v.n1
  have n10 := v.n10
  have HS := Lib.hid hs
  have c0 := hs.c0
  have hb := World.block_lt_of_cell? _ _ c0
  clear hs
  go_enter Try.func64, Try.ntmps64
  go_wp2
  go_loopw [15] (fun i W => ∃ k : Nat, k ≤ 11 ∧ i = .int .i64 k ∧ Ext w W ∧ WaysAt W w.heap.size (fillS k)) (fun i _ => 11 - (intOf i).toNat)
  case atStart => exact ⟨0, by omega, rfl, (by repeat (first | exact Below.refl _ _ | refine Ext.al ?_ _ | refine Ext.dr ?_ | refine Ext.drN ?_ _ | refine Ext.gr ?_ _ | refine Ext.set ?_ (by simp) _ | (refine Ext.trans' ?_ (by assumption)))), _, World.alloc_heap_new w _, waysB_zero⟩
  case round =>
    obtain ⟨k, hk, rfl, hE, hw⟩ := hrel
    have HE := Lib.hid hE
    have HWy := Lib.hid hw
    clear hE
    by_cases hlt : k < 11
    · have k1 := hw.sum hlt
      have kf := hw.free k
      clear hw
      go_wp2
      go_roundw
      case rel =>
        refine ⟨k + 1, by omega, by go_num, Below.setCell HE.out (Nat.le_refl _) _, ?_⟩
        obtain ⟨cur, hc, hb⟩ := HWy.out
        rw [← fillS_succ]
        exact ⟨_, heap_setCell_row hc _ _, hb.sum hlt _⟩
      case measure => simp [intOf]; omega
    · obtain rfl : k = 11 := by omega
      rw [show ((11 : Nat) : Int) = 11 from rfl]
      have k1 := hw.sum (i := start) (by omega)
      have kf := hw.free start
      have c0' := cell_ext HE.out c0
      have hb' := HE.out.size
      clear hw
      go_wp2_with fail
      have hw2 : WaysAt (wr.setCell ⟨w.heap.size, start, none⟩ (.int .i64 0)) w.heap.size (lini start) := by
        obtain ⟨cur, hc, hb⟩ := HWy.out
        have h2 : WaysAt (wr.setCell ⟨w.heap.size, start, none⟩ (.int .i64 0)) w.heap.size _ := ⟨_, heap_setCell_row hc start (.int .i64 0), hb.sum (i := start) (by omega) 0⟩
        refine WaysAt.cong h2 (fun i hi => ?_) (fun _ _ => rfl) (fun _ _ => rfl) rfl
        simp only [lini, upd, fillS, if_pos hi]
      have hE2 : Ext w (wr.setCell ⟨w.heap.size, start, none⟩ (.int .i64 0)) := Below.setCell HE.out (Nat.le_refl _) _
      have HW2 := Lib.hid hw2
      have HE2 := Lib.hid hE2
      have CB := Lib.hid (costB_arcs v)
      obtain ⟨N, hN⟩ : ∃ N : Nat, N = h.n.toNat + 1 := ⟨_, rfl⟩
      have hNi : (N : Int) = h.n + 1 := by omega
      have HN := Lib.hid hN
      have HNi := Lib.hid hNi
      have hN11 : N ≤ 11 := by omega
      clear hw2 hE2 HE HWy k1 kf c0' hb' hN hNi
      go_loopw [35] (fun i W => ∃ (t : Nat) (s : WSt), (t : Int) ≤ h.n + 2 ∧ i = .int .i64 t ∧ Ext w W ∧ WaysAt W w.heap.size s ∧ Bd (t * 121) s ∧ lrun (arcs h) N (h.n.toNat + 2 - t) s = leastM h start) (fun i _ => (h.n + 2 - intOf i).toNat)
      case atStart => exact ⟨0, lini start, by omega, rfl, HE2.out, HW2.out, by simpa using bd_lini start, by rw [HN.out]; rfl⟩
      case round =>
        obtain ⟨t, s, ht, rfl, hE, hw, hbd, hrun⟩ := hrel
        have HE := Lib.hid hE
        have HWs := Lib.hid hw
        have HBD := Lib.hid hbd
        have HRUN := Lib.hid hrun
        have c0' := cell_ext hE c0
        have hb' : b < wr.heap.size := Nat.lt_of_lt_of_le hb hE.size
        have hbw := hw.lt
        clear hE hbd hrun HE2 HW2
        by_cases hlt : (t : Int) < h.n + 2
        · have s0 := hw.sum (i := 0) (by omega)
          have s1 := hw.sum (i := 1) (by omega)
          have s2 := hw.sum (i := 2) (by omega)
          have s3 := hw.sum (i := 3) (by omega)
          have s4 := hw.sum (i := 4) (by omega)
          have s5 := hw.sum (i := 5) (by omega)
          have s6 := hw.sum (i := 6) (by omega)
          have s7 := hw.sum (i := 7) (by omega)
          have s8 := hw.sum (i := 8) (by omega)
          have s9 := hw.sum (i := 9) (by omega)
          have s10 := hw.sum (i := 10) (by omega)
          clear hw
          go_wp2_with fail
          obtain ⟨w2, rfl⟩ : ∃ w2 : World, w2 = wr := ⟨_, rfl⟩
          have hEl : Ext w2 (w2.alloc (.cells #[.int .i64 (s.sums 0), .int .i64 (s.sums 1), .int .i64 (s.sums 2), .int .i64 (s.sums 3), .int .i64 (s.sums 4), .int .i64 (s.sums 5), .int .i64 (s.sums 6), .int .i64 (s.sums 7), .int .i64 (s.sums 8), .int .i64 (s.sums 9), .int .i64 (s.sums 10)] 98)) := (by repeat (first | exact Below.refl _ _ | refine Ext.al ?_ _ | refine Ext.dr ?_ | refine Ext.drN ?_ _ | refine Ext.gr ?_ _ | refine Ext.set ?_ (by simp) _ | (refine Ext.trans' ?_ (by assumption))))
          have HEl := Lib.hid hEl
          clear hEl s0 s1 s2 s3 s4 s5 s6 s7 s8 s9 s10
          go_loopw [47] (fun i W => ∃ p : Nat, p ≤ N ∧ i = .int .i64 p ∧ Ext w W ∧ w2.heap.size < W.heap.size ∧ (∀ j, j < 11 → W.cell? ⟨w2.heap.size, j, none⟩ = some (.int .i64 (s.sums j))) ∧ WaysAt W w.heap.size (stP (arcs h) N s p)) (fun i _ => (h.n + 1 - intOf i).toNat)
          case atStart =>
            refine ⟨0, by omega, rfl, HE.out.trans' HEl.out, by simp, fun j hj => ?_, HWs.out.ext HEl.out⟩
            exact match j, hj with | 0, _ => by simp [go_sem] | 1, _ => by simp [go_sem] | 2, _ => by simp [go_sem] | 3, _ => by simp [go_sem] | 4, _ => by simp [go_sem] | 5, _ => by simp [go_sem] | 6, _ => by simp [go_sem] | 7, _ => by simp [go_sem] | 8, _ => by simp [go_sem] | 9, _ => by simp [go_sem] | 10, _ => by simp [go_sem] | n + 11, h => absurd h (by omega)
          case round =>
            obtain ⟨p, hp, rfl, hE, hz, hla, hw⟩ := hrel
            have HE3 := Lib.hid hE
            have HLA := Lib.hid hla
            have HW3 := Lib.hid hw
            have c03 := cell_ext hE c0
            have hNi := HNi.out
            clear hE hla c0'
            by_cases hltp : p < N
            · have hltp' : (p : Int) < h.n + 1 := by omega
              clear hw hNi
              go_wp2_with fail
              obtain ⟨w3, rfl⟩ : ∃ w3 : World, w3 = wr := ⟨_, rfl⟩
              clear c03
              go_loopw [56] (fun i W => ∃ q : Nat, q ≤ N ∧ i = .int .i64 q ∧ Ext w W ∧ w2.heap.size < W.heap.size ∧ (∀ j, j < 11 → W.cell? ⟨w2.heap.size, j, none⟩ = some (.int .i64 (s.sums j))) ∧ WaysAt W w.heap.size (stQ (arcs h) p (stP (arcs h) N s p) q)) (fun i _ => (h.n + 1 - intOf i).toNat)
              case atStart => exact ⟨0, by omega, rfl, HE3.out, hz, HLA.out, HW3.out⟩
              case round =>
                obtain ⟨q, hq, rfl, hE, hz4, hla, hw⟩ := hrel
                have HE4 := Lib.hid hE
                have HLA4 := Lib.hid hla
                have HW4 := Lib.hid hw
                have hs4 := HS.out.ext hE
                have c04 := hs4.c0
                have c34 := hs4.c3
                have hm4 := hs4.m
                have hNi := HNi.out
                have hb4 := World.block_lt_of_cell? _ _ c04
                have hbw4 := hw.lt
                clear hE hla HE3 HLA HW3
                by_cases hltq : q < N
                · have hltq' : (q : Int) < h.n + 1 := by omega
                  clear hNi hw
                  cases ha : arcs h ((p : Int), (q : Int)) with
                  | none =>
                    have hlk := hm4.look_none pair_keyed ((p : Int), (q : Int)) ha (z := .agg #[.bool false, .int .i64 0, .bool false, .int .i64 0]) (fun _ => by kernel_rfl)
                    simp only [kv] at hlk
                    have hstep : stQ (arcs h) p (stP (arcs h) N s p) (q + 1) = stQ (arcs h) p (stP (arcs h) N s p) q := by simp only [stQ, lstep, ha]
                    have HST := Lib.hid hstep
                    clear hm4 ha hstep hs4
                    go_wp2_with fail
                    go_quiet (fail)
                    go_wp2_with fail
                    go_roundw
                    case rel => exact ⟨q + 1, by omega, by go_num, (by repeat (first | exact Below.refl _ _ | refine Ext.al ?_ _ | refine Ext.dr ?_ | refine Ext.drN ?_ _ | refine Ext.gr ?_ _ | refine Ext.set ?_ (by simp) _ | (refine Ext.trans' ?_ (by assumption)))), by simp; omega, fun j hj => cell_ext (by exact (by repeat (first | exact Below.refl _ _ | refine Ext.al ?_ _ | refine Ext.dr ?_ | refine Ext.drN ?_ _ | refine Ext.gr ?_ _ | refine Ext.set ?_ (by simp) _ | (refine Ext.trans' ?_ (by assumption)))) : Ext wr _) (HLA4.out j hj), by rw [HST.out]; exact HW4.out.ext (by repeat (first | exact Below.refl _ _ | refine Ext.al ?_ _ | refine Ext.dr ?_ | refine Ext.drN ?_ _ | refine Ext.gr ?_ _ | refine Ext.set ?_ (by simp) _ | (refine Ext.trans' ?_ (by assumption))))⟩
                    case measure => simp [intOf]; omega
                  | some a =>
                    have hlk := hm4.look_ok pair_keyed ((p : Int), (q : Int)) ha
                    simp only [kv, av] at hlk
                    have sp := HW4.out.sum (i := p) (by omega)
                    have sq := HW4.out.sum (i := q) (by omega)
                    have HA := Lib.hid ha
                    have hcb := CB.out _ _ ha
                    have hbd := ((HBD.out.stP CB.out (N := N) p).stQ CB.out p q)
                    clear hm4 ha hs4
                    have hpN : (p : Int) * N ≤ 121 := by
                      have := Nat.mul_le_mul (show p ≤ 11 by omega) hN11
                      have e : ((p * N : Nat) : Int) = (p : Int) * N := by simp
                      omega
                    obtain ⟨σ, hσ⟩ : ∃ σ : WSt, σ = stQ (arcs h) p (stP (arcs h) N s p) q := ⟨_, rfl⟩
                    have hstep : stQ (arcs h) p (stP (arcs h) N s p) (q + 1) = (if σ.sums p = nowh ∨ σ.sums q ≤ σ.sums p + a.2 then σ else ⟨upd σ.sums q (σ.sums p + a.2), upd σ.before q (p : Int), upd σ.by_ q a.1, (q : Int)⟩) := by
                      simp only [stQ, lstep, HA.out, ← hσ]
                    rw [← hσ] at sp sq hbd
                    have HW5 := Lib.hid (hσ ▸ HW4.out : WaysAt wr w.heap.size σ)
                    have bp := hbd p
                    have bq := hbd q
                    have bp1 : -20000000000 ≤ σ.sums p := by unfold nowh at bp; omega
                    have bp2 : σ.sums p ≤ 1099511627776 := by unfold nowh at bp; omega
                    have bq1 : -20000000000 ≤ σ.sums q := by unfold nowh at bq; omega
                    have bq2 : σ.sums q ≤ 1099511627776 := by unfold nowh at bq; omega
                    obtain ⟨hc1, hc2⟩ := hcb
                    have HST := Lib.hid hstep
                    have hfr := fun o => HW5.out.free o
                    have HF := Lib.hid hfr
                    clear hstep hbd bp bq HW4 hσ hpN HA hfr
                    by_cases h1 : σ.sums p = 1099511627776
                    · have h1' : (σ.sums p == 1099511627776) = true := by simpa using h1
                      have H1 := Lib.hid h1
                      clear h1
                      go_wp2_with fail
                      go_quiet (fail)
                      go_wp2_with fail
                      go_roundw
                      case rel => exact ⟨q + 1, by omega, by go_num, (by repeat (first | exact Below.refl _ _ | refine Ext.al ?_ _ | refine Ext.dr ?_ | refine Ext.drN ?_ _ | refine Ext.gr ?_ _ | refine Ext.set ?_ (by simp) _ | (refine Ext.trans' ?_ (by assumption)))), by simp; omega, fun j hj => cell_ext (by exact (by repeat (first | exact Below.refl _ _ | refine Ext.al ?_ _ | refine Ext.dr ?_ | refine Ext.drN ?_ _ | refine Ext.gr ?_ _ | refine Ext.set ?_ (by simp) _ | (refine Ext.trans' ?_ (by assumption)))) : Ext wr _) (HLA4.out j hj), by rw [HST.out, if_pos (.inl H1.out)]; exact HW5.out.ext (by repeat (first | exact Below.refl _ _ | refine Ext.al ?_ _ | refine Ext.dr ?_ | refine Ext.drN ?_ _ | refine Ext.gr ?_ _ | refine Ext.set ?_ (by simp) _ | (refine Ext.trans' ?_ (by assumption))))⟩
                      case measure => simp [intOf]; omega
                    · have h1' : (σ.sums p == 1099511627776) = false := by simpa using h1
                      have H1 := Lib.hid h1
                      clear h1
                      by_cases h2 : σ.sums q ≤ σ.sums p + a.2
                      · have h2' : decide (σ.sums q ≤ σ.sums p + a.2) = true := by simpa using h2
                        go_wp2_with fail
                        go_quiet (fail)
                        go_wp2_with fail
                        go_roundw
                        case rel => exact ⟨q + 1, by omega, by go_num, (by repeat (first | exact Below.refl _ _ | refine Ext.al ?_ _ | refine Ext.dr ?_ | refine Ext.drN ?_ _ | refine Ext.gr ?_ _ | refine Ext.set ?_ (by simp) _ | (refine Ext.trans' ?_ (by assumption)))), by simp; omega, fun j hj => cell_ext (by exact (by repeat (first | exact Below.refl _ _ | refine Ext.al ?_ _ | refine Ext.dr ?_ | refine Ext.drN ?_ _ | refine Ext.gr ?_ _ | refine Ext.set ?_ (by simp) _ | (refine Ext.trans' ?_ (by assumption)))) : Ext wr _) (HLA4.out j hj), by rw [HST.out, if_pos (.inr h2)]; exact HW5.out.ext (by repeat (first | exact Below.refl _ _ | refine Ext.al ?_ _ | refine Ext.dr ?_ | refine Ext.drN ?_ _ | refine Ext.gr ?_ _ | refine Ext.set ?_ (by simp) _ | (refine Ext.trans' ?_ (by assumption))))⟩
                        case measure => simp [intOf]; omega
                      · have h2' : decide (σ.sums q ≤ σ.sums p + a.2) = false := by simpa using h2
                        have e1 := HW5.out.befo (i := q) (by omega)
                        have e2 := HW5.out.b0 (i := q) (by omega)
                        have e3 := HW5.out.b1 (i := q) (by omega)
                        have e4 := HW5.out.b2 (i := q) (by omega)
                        have e5 := HW5.out.rin
                        have f0 := HF.out q
                        have f1 := HF.out (11 + q)
                        have f2 := HF.out (22 + q * 3)
                        have f3 := HF.out (22 + q * 3 + 1)
                        have f4 := HF.out (22 + q * 3 + 2)
                        have f5 := HF.out 55
                        go_wp2_with fail
                        go_quiet (fail)
                        go_wp2_with fail
                        go_region
                        go_wp2_with fail
                        have H2 := Lib.hid h2
                        go_roundw
                        case rel =>
                          obtain ⟨g1, g2, g3, g4⟩ := ways_world (q := q) (by omega) HE4.out HW5.out (.cells #[.bool a.1.win, .int .i64 a.1.idx, .bool a.1.back, .int .i64 a.2] 134) (nq + 1) (σ.sums p + a.2) (p : Int) (q : Int) a.1
                          refine ⟨q + 1, by omega, by go_num, g1, by omega, fun j hj => g3 _ _ _ (by omega) (HLA4.out j hj), ?_⟩
                          rw [HST.out, if_neg (by have := H1.out; have := H2.out; unfold nowh; omega)]
                          exact g4
                        case measure => simp [intOf]; omega
                · clear hw hm4 hs4 hNi
                  obtain rfl : q = N := by omega
                  have hNi := HNi.out
                  go_wp2
                  go_roundw
                  case rel => exact ⟨p + 1, by omega, by go_num, HE4.out, hz4, HLA4.out, HW4.out⟩
                  case measure => simp [intOf]; omega
            · obtain rfl : p = N := by omega
              have t0 := hw.sum (i := 0) (by omega)
              have t1 := hw.sum (i := 1) (by omega)
              have t2 := hw.sum (i := 2) (by omega)
              have t3 := hw.sum (i := 3) (by omega)
              have t4 := hw.sum (i := 4) (by omega)
              have t5 := hw.sum (i := 5) (by omega)
              have t6 := hw.sum (i := 6) (by omega)
              have t7 := hw.sum (i := 7) (by omega)
              have t8 := hw.sum (i := 8) (by omega)
              have t9 := hw.sum (i := 9) (by omega)
              have t10 := hw.sum (i := 10) (by omega)
              have l0 := HLA.out 0 (by omega)
              have l1 := HLA.out 1 (by omega)
              have l2 := HLA.out 2 (by omega)
              have l3 := HLA.out 3 (by omega)
              have l4 := HLA.out 4 (by omega)
              have l5 := HLA.out 5 (by omega)
              have l6 := HLA.out 6 (by omega)
              have l7 := HLA.out 7 (by omega)
              have l8 := HLA.out 8 (by omega)
              have l9 := HLA.out 9 (by omega)
              have l10 := HLA.out 10 (by omega)
              obtain ⟨u, hu⟩ : ∃ u : WSt, u = stP (arcs h) p s p := ⟨_, rfl⟩
              rw [← hu] at t0 t1 t2 t3 t4 t5 t6 t7 t8 t9 t10
              have HU := Lib.hid hu
              have heq : ∀ W, (binOp .eql 98 (.agg #[.int .i64 (s.sums 0), .int .i64 (s.sums 1), .int .i64 (s.sums 2), .int .i64 (s.sums 3), .int .i64 (s.sums 4), .int .i64 (s.sums 5), .int .i64 (s.sums 6), .int .i64 (s.sums 7), .int .i64 (s.sums 8), .int .i64 (s.sums 9), .int .i64 (s.sums 10)]) (.agg #[.int .i64 (u.sums 0), .int .i64 (u.sums 1), .int .i64 (u.sums 2), .int .i64 (u.sums 3), .int .i64 (u.sums 4), .int .i64 (u.sums 5), .int .i64 (u.sums 6), .int .i64 (u.sums 7), .int .i64 (u.sums 8), .int .i64 (u.sums 9), .int .i64 (u.sums 10)])).run Try.prog W = .ok (.bool (same11 s u)) W := fun W =>
                run_eql_ints (info := Try.t2) (by kernel_rfl) (by kernel_rfl) (by kernel_rfl) (by kernel_rfl) Try.underlying2 _ _ s.sums u.sums (fun i hi => match i, hi with | 0, _ => rfl | 1, _ => rfl | 2, _ => rfl | 3, _ => rfl | 4, _ => rfl | 5, _ => rfl | 6, _ => rfl | 7, _ => rfl | 8, _ => rfl | 9, _ => rfl | 10, _ => rfl | n + 11, h => absurd h (by omega)) (fun i hi => match i, hi with | 0, _ => rfl | 1, _ => rfl | 2, _ => rfl | 3, _ => rfl | 4, _ => rfl | 5, _ => rfl | 6, _ => rfl | 7, _ => rfl | 8, _ => rfl | 9, _ => rfl | 10, _ => rfl | n + 11, h => absurd h (by omega)) W
              clear hw hu
              cases hsame : same11 s u
              · go_wp2_with fail
                go_quiet (fail)
                go_wp2_with fail
                go_roundw
                case rel =>
                  refine ⟨t + 1, u, by omega, by go_num, (by repeat (first | exact Below.refl _ _ | refine Ext.al ?_ _ | refine Ext.dr ?_ | refine Ext.drN ?_ _ | refine Ext.gr ?_ _ | refine Ext.set ?_ (by simp) _ | (refine Ext.trans' ?_ (by assumption)))), by rw [HU.out]; exact HW3.out.ext (by repeat (first | exact Below.refl _ _ | refine Ext.al ?_ _ | refine Ext.dr ?_ | refine Ext.drN ?_ _ | refine Ext.gr ?_ _ | refine Ext.set ?_ (by simp) _ | (refine Ext.trans' ?_ (by assumption)))), ?_, ?_⟩
                  · rw [HU.out]
                    refine (HBD.out.stP CB.out (N := p) p).mono ?_
                    have := Nat.mul_le_mul hN11 hN11
                    have e : ((p * p : Nat) : Int) = (p : Int) * p := by simp
                    omega
                  · have hr := HRUN.out
                    have e : h.n.toNat + 2 - t = (h.n.toNat + 2 - (t + 1)) + 1 := by omega
                    rw [e] at hr
                    simp only [lrun, ← HU.out, hsame] at hr
                    exact hr
                case measure => simp [intOf]; omega
              · go_wp2_with fail
                go_quiet (fail)
                go_wp2_with fail
                refine bodyPost_ret (v := .tuple #[.pointer (some ⟨w.heap.size, 0, none⟩), .bool true]) (by simp [results, Try.results64, go_sem]) rfl ?_
                have hr := HRUN.out
                have e : h.n.toNat + 2 - t = (h.n.toNat + 2 - (t + 1)) + 1 := by omega
                rw [e] at hr
                simp only [lrun, ← HU.out, hsame, if_true] at hr
                rw [← hr]
                exact ⟨rfl, (by repeat (first | exact Below.refl _ _ | refine Ext.al ?_ _ | refine Ext.dr ?_ | refine Ext.drN ?_ _ | refine Ext.gr ?_ _ | refine Ext.set ?_ (by simp) _ | (refine Ext.trans' ?_ (by assumption)))), by rw [HU.out]; exact HW3.out.ext (by repeat (first | exact Below.refl _ _ | refine Ext.al ?_ _ | refine Ext.dr ?_ | refine Ext.drN ?_ _ | refine Ext.gr ?_ _ | refine Ext.set ?_ (by simp) _ | (refine Ext.trans' ?_ (by assumption))))⟩
        · go_wp2
          refine bodyPost_ret (v := .tuple #[.pointer (some ⟨w.heap.size, 0, none⟩), .bool false]) (by simp [results, Try.results64, go_sem]) rfl ?_
          have e : h.n.toNat + 2 - t = 0 := by omega
          have hr := HRUN.out
          rw [e] at hr
          simp only [lrun] at hr
          rw [← hr]
          exact ⟨rfl, HE.out, HWs.out⟩
end Go.Proofs.Ytgcldgchhdjnhaa
