/-
  The walk of slices.Reverse on steps that a call has made itself.
-/
import Derived.Test.YtgcldgchhdjnhaaLeast
import Derived.Test.YtgcldgchhdjnhaaOwn
namespace Go.Proofs.Ytgcldgchhdjnhaa
open Go.RowKit Go.Shelf

/-- steps in a block, from its head on -/
structure StpsB (cur : Array Value) (n : Nat) (f : Nat → Stp) : Prop where
  size : n * 3 ≤ cur.size
  c0 : ∀ i, i < n → cur[i * 3]? = some (.bool (f i).win)
  c1 : ∀ i, i < n → cur[i * 3 + 1]? = some (.int .i64 (f i).idx)
  c2 : ∀ i, i < n → cur[i * 3 + 2]? = some (.bool (f i).back)
theorem StpsB.set {cur : Array Value} {n : Nat} {f : Nat → Stp} (h : StpsB cur n f) {i : Nat} (hi : i < n) (x : Stp) :
    StpsB (((cur.setIfInBounds (i * 3) (.bool x.win)).setIfInBounds (i * 3 + 1) (.int .i64 x.idx)).setIfInBounds (i * 3 + 2) (.bool x.back)) n (upd f i x) where
  size := by simpa using h.size
  c0 := fun j hj => by
    have hs := h.size
    by_cases e : i = j
    · subst e; rw [set_off _ (by omega), set_off _ (by omega), set_on _ (by omega)]; simp [upd]
    · rw [set_off _ (by omega), set_off _ (by omega), set_off _ (by omega), h.c0 j hj]; simp [upd, Ne.symm e]
  c1 := fun j hj => by
    have hs := h.size
    by_cases e : i = j
    · subst e; rw [set_off _ (by omega), set_on _ (by simp; omega)]; simp [upd]
    · rw [set_off _ (by omega), set_off _ (by omega), set_off _ (by omega), h.c1 j hj]; simp [upd, Ne.symm e]
  c2 := fun j hj => by
    have hs := h.size
    by_cases e : i = j
    · subst e; rw [set_on _ (by simp; omega)]; simp [upd]
    · rw [set_off _ (by omega), set_off _ (by omega), set_off _ (by omega), h.c2 j hj]; simp [upd, Ne.symm e]
theorem heap_drew_row {W : World} {b : Nat} {o : Option Obj} (h : W.heap[b]? = o) : W.drew.heap[b]? = o := h
def rv (f : Nat → Stp) (n k : Nat) : Nat → Stp := fun i => if i < k ∨ n < i + k + 1 then f (n - 1 - i) else f i

set_option maxRecDepth 100000 in
set_option maxHeartbeats 2000000 in
theorem rev_any (g n cap : Nat) (f : Nat → Stp) (cur : Array Value) (T : TypeId) (hn : n ≤ 1000000) (w : World) (hg : w.heap[g]? = some (.cells cur T (0, 0))) (hB : StpsB cur n f) :
    Calls Try.prog 103 #[.slice (some ⟨g, 0, none⟩) n cap] w fun e w' =>
      e = .returned (.tuple #[]) ∧ Kept (fun k => k ≠ g) w w' ∧ ∃ cur', w'.heap[g]? = some (.cells cur' T (0, 0)) ∧ StpsB cur' n (fun i => f (n - 1 - i)) := by
  go_enter Try.func103, Try.ntmps103
  go_wp2_with fail
  go_loopw [2, 3] (fun i j W => ∃ (k : Nat) (cur' : Array Value), 2 * k ≤ n + 1 ∧ i = .int .i64 k ∧ j = .int .i64 ((n : Int) - 1 - k) ∧ Kept (fun k => k ≠ g) w W ∧ W.heap[g]? = some (.cells cur' T (0, 0)) ∧ StpsB cur' n (rv f n k)) (fun i _ _ => n + 1 - (intOf i).toNat)
  case atStart =>
    refine ⟨0, cur, by omega, rfl, by simp, Kept.refl _ _, hg, ?_⟩
    have e : ∀ i, i < n → rv f n 0 i = f i := fun i hi => by unfold rv; rw [if_neg (by omega)]
    exact ⟨hB.size, fun i hi => by rw [e i hi]; exact hB.c0 i hi, fun i hi => by rw [e i hi]; exact hB.c1 i hi, fun i hi => by rw [e i hi]; exact hB.c2 i hi⟩
  case round =>
    obtain ⟨k, cur', hk, rfl, rfl, hK, hh, hBB⟩ := hrel
    have HK := Lib.hid hK
    have HH := Lib.hid hh
    have HBB := Lib.hid hBB
    by_cases hlt : (k : Int) < (n : Int) - 1 - k
    · obtain ⟨m, hm⟩ : ∃ m : Nat, (n : Int) - 1 - k = m := ⟨n - 1 - k, by omega⟩
      have a0 : wr.cell? ⟨g, k * 3, none⟩ = some (.bool (rv f n k k).win) := by rw [cell_of_row _ _ _ _ _ _ hh]; exact hBB.c0 k (by omega)
      have a1 : wr.cell? ⟨g, k * 3 + 1, none⟩ = some (.int .i64 (rv f n k k).idx) := by rw [cell_of_row _ _ _ _ _ _ hh]; exact hBB.c1 k (by omega)
      have a2 : wr.cell? ⟨g, k * 3 + 2, none⟩ = some (.bool (rv f n k k).back) := by rw [cell_of_row _ _ _ _ _ _ hh]; exact hBB.c2 k (by omega)
      have b0 : wr.cell? ⟨g, m * 3, none⟩ = some (.bool (rv f n k m).win) := by rw [cell_of_row _ _ _ _ _ _ hh]; exact hBB.c0 m (by omega)
      have b1 : wr.cell? ⟨g, m * 3 + 1, none⟩ = some (.int .i64 (rv f n k m).idx) := by rw [cell_of_row _ _ _ _ _ _ hh]; exact hBB.c1 m (by omega)
      have b2 : wr.cell? ⟨g, m * 3 + 2, none⟩ = some (.bool (rv f n k m).back) := by rw [cell_of_row _ _ _ _ _ _ hh]; exact hBB.c2 m (by omega)
      have hfr : ∀ o, wr.frozen? ⟨g, o, none⟩ = false := fun o => by simp [World.frozen?, hh]
      have f0 := hfr (k * 3)
      have f1 := hfr (k * 3 + 1)
      have f2 := hfr (k * 3 + 2)
      have g0 := hfr (m * 3)
      have g1 := hfr (m * 3 + 1)
      have g2 := hfr (m * 3 + 2)
      have hkm : k < m := by omega
      have hmn : m < n := by omega
      have hmn2 : m + k + 1 = n := by omega
      have n0 : ¬ k * 3 = m * 3 := by omega
      have n1 : ¬ k * 3 + 1 = m * 3 := by omega
      have n2 : ¬ k * 3 + 2 = m * 3 := by omega
      have n3 : ¬ k * 3 = m * 3 + 1 := by omega
      have n5 : ¬ k * 3 + 2 = m * 3 + 1 := by omega
      have n6 : ¬ k * 3 = m * 3 + 2 := by omega
      have n7 : ¬ k * 3 + 1 = m * 3 + 2 := by omega
      rw [hm]
      clear hK hh hBB hm hlt hfr
      go_wp2_with fail
      go_region
      go_wp2_with fail
      go_roundw
      case rel =>
        refine ⟨k + 1, _, by omega, by go_num, (by congr 1; omega), ?_, heap_drew_row (heap_setCell_row (heap_setCell_row (heap_setCell_row (heap_setCell_row (heap_setCell_row (heap_setCell_row HH.out _ _) _ _) _ _) _ _) _ _) _ _), ?_⟩
        · refine Kept.drew ?_
          exact (((((HK.out.setCell (p := ⟨g, _, none⟩) (fun _ hne => hne rfl) _).setCell (p := ⟨g, _, none⟩) (fun _ hne => hne rfl) _).setCell (p := ⟨g, _, none⟩) (fun _ hne => hne rfl) _).setCell (p := ⟨g, _, none⟩) (fun _ hne => hne rfl) _).setCell (p := ⟨g, _, none⟩) (fun _ hne => hne rfl) _).setCell (p := ⟨g, _, none⟩) (fun _ hne => hne rfl) _
        · have hb := (HBB.out.set (i := k) (by omega) (rv f n k m)).set (i := m) (by omega) (rv f n k k)
          have e : ∀ i, i < n → upd (upd (rv f n k) k (rv f n k m)) m (rv f n k k) i = rv f n (k + 1) i := fun i hi => by
            have ek : rv f n k k = f k := by unfold rv; rw [if_neg (by omega)]
            have em : rv f n k m = f m := by unfold rv; rw [if_neg (by omega)]
            rw [ek, em]
            unfold upd rv
            by_cases h1 : i = m
            · subst h1
              rw [if_pos rfl, if_pos (by omega), show n - 1 - i = k by omega]
            · rw [if_neg h1]
              by_cases h2 : i = k
              · subst h2
                rw [if_pos rfl, if_pos (by omega), show n - 1 - i = m by omega]
              · rw [if_neg h2]
                by_cases h3 : i < k ∨ n < i + k + 1
                · rw [if_pos h3, if_pos (by omega)]
                · rw [if_neg h3, if_neg (by omega)]
          exact ⟨hb.size, fun i hi => by rw [← e i hi]; exact hb.c0 i hi, fun i hi => by rw [← e i hi]; exact hb.c1 i hi, fun i hi => by rw [← e i hi]; exact hb.c2 i hi⟩
      case measure => simp [intOf]; omega
    · go_wp2_with fail
      go_end0
      refine ⟨rfl, HK.out, cur', HH.out, ?_⟩
      have e : ∀ i, i < n → rv f n k i = f (n - 1 - i) := fun i hi => by
        unfold rv
        by_cases h3 : i < k ∨ n < i + k + 1
        · rw [if_pos h3]
        · rw [if_neg h3, show n - 1 - i = i by omega]
      have hb := HBB.out
      exact ⟨hb.size, fun i hi => by rw [← e i hi]; exact hb.c0 i hi, fun i hi => by rw [← e i hi]; exact hb.c1 i hi, fun i hi => by rw [← e i hi]; exact hb.c2 i hi⟩

set_option maxHeartbeats 1000000 in
theorem rev_nil (w : World) : Calls Try.prog 103 #[.slice none 0 0] w fun e w' => e = .returned (.tuple #[]) ∧ Ext w w' := by
  go_enter Try.func103, Try.ntmps103
  go_wp2_with fail
  go_loopw [2, 3] (fun i j W => i = .int .i64 0 ∧ j = .int .i64 (-1) ∧ Ext w W) (fun i _ _ => 0)
  case atStart => exact ⟨rfl, rfl, Below.refl _ _⟩
  case round =>
    obtain ⟨rfl, rfl, hb⟩ := hrel
    go_wp2_with fail
    go_end0
    exact ⟨rfl, hb⟩
end Go.Proofs.Ytgcldgchhdjnhaa
