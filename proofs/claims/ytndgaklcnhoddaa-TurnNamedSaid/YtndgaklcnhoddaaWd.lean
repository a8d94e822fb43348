/-
  slices.Reverse of numbers, and the walk of back: the visits that have led to a state.
  A queue of numbers: a slice that loses its first element, and grows at its end.
  The walk of open: the table of a hall with a state of it, or the error.
  The walks of Next and Count.
  The walk of from: a state, and all to which visits lead from it.
  Plain: the search of circle, as the program keeps it: what was gone through, what waits, and from where each state was found.
-/
import Derived.Test.YtndgaklcnhoddaaWc
import Derived.Deep.RegionWith
import Derived.Test.YtndgaklcnhoddaaPl
namespace Go.Proofs.Ytndgaklcnhoddaa
open Go.RowKit Go.Shelf
/-- the first n numbers of a block -/
def NumB (W : World) (g n : Nat) (f : Nat → Int) : Prop := ∃ cur : Array Value, W.heap[g]? = some (.cells cur 3 (0, 0)) ∧ n ≤ cur.size ∧ ∀ j, j < n → cur[j]? = some (.int .i64 (f j))
theorem NumB.cell {W : World} {g n : Nat} {f : Nat → Int} (h : NumB W g n f) (j : Nat) (hj : j < n) : W.cell? ⟨g, j, none⟩ = some (.int .i64 (f j)) := by
  obtain ⟨cur, h1, _, h2⟩ := h
  rw [cell_of_row _ _ _ _ _ _ h1]; exact h2 j hj
theorem NumB.free {W : World} {g n : Nat} {f : Nat → Int} (h : NumB W g n f) (o : Nat) : W.frozen? ⟨g, o, none⟩ = false := by
  obtain ⟨cur, h1, _, h2⟩ := h
  simp [World.frozen?, h1]
theorem NumB.lt {W : World} {g n : Nat} {f : Nat → Int} (h : NumB W g n f) : g < W.heap.size := by
  obtain ⟨cur, h1, _, h2⟩ := h
  exact (Array.getElem?_eq_some_iff.1 h1).1
theorem NumB.set {W : World} {g n : Nat} {f : Nat → Int} (h : NumB W g n f) (i : Nat) (x : Int) : NumB (W.setCell ⟨g, i, none⟩ (.int .i64 x)) g n (fun j => if j = i then x else f j) := by
  obtain ⟨cur, h1, hn, h2⟩ := h
  refine ⟨_, heap_setCell_row h1 i _, by simpa using hn, fun j hj => ?_⟩
  by_cases e : j = i
  · subst e
    simp only [if_true]
    rw [set_on _ (by omega)]
  · simp only [if_neg e]
    rw [Array.getElem?_setIfInBounds, if_neg (fun h => e h.symm), h2 j hj]
theorem NumB.of_heap {W W' : World} {g n : Nat} {f : Nat → Int} (h : NumB W g n f) (e : W'.heap[g]? = W.heap[g]?) : NumB W' g n f := by
  obtain ⟨cur, h1, h2⟩ := h
  exact ⟨cur, e.trans h1, h2⟩
theorem NumB.congr {W : World} {g n : Nat} {f f' : Nat → Int} (h : NumB W g n f) (e : ∀ j, j < n → f j = f' j) : NumB W g n f' := by
  obtain ⟨cur, h1, h2, h3⟩ := h
  exact ⟨cur, h1, h2, fun j hj => by rw [h3 j hj, e j hj]⟩
theorem Owns.numB {W : World} {B g n cap : Nat} {l : List Int} (h : Owns W B 3 1 (.slice (some ⟨g, 0, none⟩) n cap) (l.map iRow)) : n = l.length ∧ n ≤ cap ∧ cap ≤ 9223372036854775807 ∧ B ≤ g ∧ NumB W g n (gt l) := by
  rcases h.1.2 with ⟨hv, _⟩ | ⟨g', cap', cur, hv, hb, hg, hn, hm, hsz, ht⟩
  · cases hv
  · simp only [Value.slice.injEq, Option.some.injEq, Addr.mk.injEq] at hv
    obtain ⟨⟨rfl, -, -⟩, rfl, rfl⟩ := hv
    rw [List.length_map] at *
    refine ⟨rfl, hn, by simpa [maxLen] using hm, hb, cur, hg, by rw [hsz]; omega, fun j hj => ?_⟩
    obtain ⟨_, _, e, _, _, hf⟩ := h.form
    rcases hf with ⟨h0, _⟩ | ⟨g'', h0, _, _, hr, _⟩
    · have := List.map_eq_nil_iff.1 h0; subst this; simp at hj
    · simp only [Value.slice.injEq] at e
      rw [← e.1] at h0
      cases h0
      have := hr j (by simpa using hj) 0 (by simp [iRow])
      rw [cell_of_row _ _ _ _ _ _ hg] at this
      simp only [List.getElem_map, iRow, List.getElem_cons_zero, Nat.zero_add, Nat.mul_one, Nat.add_zero] at this
      rw [this, gt_get hj]
theorem NumB.owns {W : World} {B g n cap : Nat} {l : List Int} (h : NumB W g n (gt l)) (hl : n = l.length) (hB : B ≤ g) (hc : n ≤ cap) (hm : cap ≤ 9223372036854775807) (hsz : ∀ cur T fr, W.heap[g]? = some (.cells cur T fr) → cur.size = cap) : Owns W B 3 1 (.slice (some ⟨g, 0, none⟩) n cap) (l.map iRow) := by
  obtain ⟨cur, h1, h2, h3⟩ := h
  have hfl : (l.map iRow).flatten = l.map (Value.int .i64) := by
    clear hsz h1 h2 h3 hl
    induction l with
    | nil => rfl
    | cons x l ih => simp [iRow, ih]
  refine ⟨⟨by simp [hfl], .inr ⟨g, cap, cur, by simp [hl], hB, h1, by simpa [hl] using hc, by simpa [maxLen] using hm, by rw [hsz _ _ _ h1]; omega, ?_⟩⟩, by simp [iRow]⟩
  rw [hfl, List.length_map, Nat.mul_one]
  apply List.ext_getElem?
  intro j
  by_cases hj : j < l.length
  · rw [List.getElem?_take_of_lt hj, Array.getElem?_toList, h3 j (by omega), List.getElem?_map, List.getElem?_eq_getElem hj, gt_get hj]; rfl
  · rw [List.getElem?_take_eq_none (by omega), List.getElem?_eq_none (by simp; omega)]
def revTo (l : List Int) (k j : Nat) : Int := if j < k ∨ l.length ≤ j + k then gt l (l.length - 1 - j) else gt l j
theorem revTo_zero (l : List Int) (j : Nat) (hj : j < l.length) : revTo l 0 j = gt l j := by unfold revTo; rw [if_neg (by omega)]
theorem revTo_all (l : List Int) (k j : Nat) (hj : j < l.length) (hk : l.length ≤ k + k + 1) : revTo l k j = gt l.reverse j := by
  have e : gt l.reverse j = gt l (l.length - 1 - j) := by
    rw [← gt_get (show j < l.reverse.length by simpa using hj), ← gt_get (show l.length - 1 - j < l.length by omega), List.getElem_reverse]
  unfold revTo
  rw [e]
  by_cases h : j < k ∨ l.length ≤ j + k
  · rw [if_pos h]
  · rw [if_neg h]
    have : l.length - 1 - j = j := by omega
    rw [this]
theorem revTo_succ (l : List Int) (k j : Nat) (hk : k + k + 1 < l.length) : (if j = l.length - 1 - k then gt l k else if j = k then gt l (l.length - 1 - k) else revTo l k j) = revTo l (k + 1) j := by
  unfold revTo
  by_cases h1 : j = l.length - 1 - k
  · rw [if_pos h1, if_pos (by omega)]
    congr 1; omega
  · rw [if_neg h1]
    by_cases h2 : j = k
    · rw [if_pos h2, if_pos (by omega), h2]
    · rw [if_neg h2]
      by_cases h3 : j < k ∨ l.length ≤ j + k
      · rw [if_pos h3, if_pos (by omega)]
      · rw [if_neg h3, if_neg (by omega)]
set_option maxRecDepth 100000 in
set_option maxHeartbeats 2000000 in
theorem reverse_any (l : List Int) (g n cap B : Nat) (w : World) (h : Owns w B 3 1 (.slice (some ⟨g, 0, none⟩) n cap) (l.map iRow)) :
    Calls Try.prog 111 #[.slice (some ⟨g, 0, none⟩) n cap] w fun e W => (∃ r, e = .returned r) ∧ Owns W B 3 1 (.slice (some ⟨g, 0, none⟩) n cap) (l.reverse.map iRow) ∧ Kept (fun k => k ≠ g) w W := by
  obtain ⟨hn, hc, hm, hB, hnb⟩ := h.numB
  have hsz : ∃ cur, w.heap[g]? = some (.cells cur 3 (0, 0)) ∧ cur.size = cap := by
    rcases h.1.2 with ⟨hv, _⟩ | ⟨g', cap', cur, hv, hb, hg, hn, hm, hsz, ht⟩
    · cases hv
    · simp only [Value.slice.injEq, Option.some.injEq, Addr.mk.injEq] at hv
      obtain ⟨⟨rfl, -, -⟩, -, rfl⟩ := hv
      exact ⟨cur, hg, by omega⟩
  have HN := Lib.hid hn
  have HNB := Lib.hid hnb
  have HSZ := Lib.hid hsz
  clear h hnb hsz hn
  go_enter Try.func111, Try.ntmps111
  go_wp2_with fail
  go_loopw [2, 3] (fun i j W => ∃ k : Nat, k ≤ n ∧ i = .int .i64 k ∧ j = .int .i64 ((n : Int) - 1 - k) ∧ (n = 0 ∨ k + k ≤ n + 1) ∧ NumB W g n (revTo l k) ∧ Kept (fun k => k ≠ g) w W ∧ ∃ cur, W.heap[g]? = some (.cells cur 3 (0, 0)) ∧ cur.size = cap) (fun i _ _ => n - (intOf i).toNat)
  case atStart => exact ⟨0, by omega, rfl, by go_num, by omega, HNB.out.congr fun j hj => (revTo_zero l j (by rw [← HN.out]; exact hj)).symm, Kept.refl _ _, HSZ.out⟩
  case round =>
    obtain ⟨k, hk, rfl, rfl, hkk, hnb, hkp, hsz⟩ := hrel
    have HNBr := Lib.hid hnb
    have HKP := Lib.hid hkp
    have HSZr := Lib.hid hsz
    by_cases hlt : k + k + 1 < n
    · have hd : decide ((k : Int) < (n : Int) - 1 - (k : Int)) = true := decide_eq_true (by omega)
      obtain ⟨m, hm1⟩ : ∃ m : Nat, m = n - 1 - k := ⟨_, rfl⟩
      have hmm : (n : Int) - 1 - (k : Int) = (m : Int) := by omega
      have c0 := hnb.cell k (by omega)
      have c1 := hnb.cell m (by omega)
      have f0 := hnb.free k
      have f1 := hnb.free m
      have hzg := hnb.lt
      have hki : (k : Int) < (n : Int) := by omega
      have hmi : (m : Int) < (n : Int) := by omega
      have hkm : k < m := by omega
      have HM1 := Lib.hid hm1
      obtain ⟨x, hx⟩ : ∃ x, x = revTo l k k := ⟨_, rfl⟩
      obtain ⟨y, hy⟩ : ∃ y, y = revTo l k m := ⟨_, rfl⟩
      rw [← hx] at c0
      rw [← hy] at c1
      have HX := Lib.hid hx
      have HY := Lib.hid hy
      rw [hmm] at hd ⊢
      clear hnb hkp hsz hx hy hmm hm1
      go_wp2_with fail
      refine wp_region_rove_tail rfl rfl (by kernel_rfl) (g) (by omega)
        [sqV (.slice (some ⟨g, 0, none⟩) n cap),
         sqV (.int .i64 k),
         sqV (.slice (some ⟨g, 0, none⟩) n cap),
         sqV (.int .i64 m),
         sqV (.slice (some ⟨g, 0, none⟩) n cap),
         sqV (.int .i64 m),
         sqV (.pointer (some ⟨g, m, none⟩)),
         sqV (.int .i64 y),
         sqV (.slice (some ⟨g, 0, none⟩) n cap),
         sqV (.int .i64 k),
         sqV (.pointer (some ⟨g, k, none⟩)),
         sqV (.int .i64 x),
         sqV (.pointer (some ⟨g, k, none⟩)),
         sqW (fun v W => Kept (fun j => j ≠ g) wr W ∧ NumB W g n (fun j => if j = k then y else revTo l k j) ∧ (∃ cur, W.heap[g]? = some (.cells cur 3 (0, 0)) ∧ cur.size = cap)) (fun _ _ _ ⟨h1, h2, h3⟩ e => ⟨h1.trans (.of_below e), h2.of_heap (e.block _ h2.lt), h3.imp fun cur h => ⟨(e.block _ h2.lt).trans h.1, h.2⟩⟩),
         sqV (.pointer (some ⟨g, m, none⟩))]
        [true, true, true, true, true, true, true, true, true, true, true, true, true, false, true] [false, false, false, false, false, false, false, false, false, false, false, false, false, true, false] [true, true, true, true, true, true, true, true, true, true, true, true, true, true, true] [true, true, false, false, true, true, true, true, true, true, true, true, true, true, false]
        (by kernel_rfl) (by kernel_rfl) (by decide +kernel) (by decide +kernel) (by decide +kernel) rfl ⟨rfl, rfl⟩ ⟨?s0, ?s1, ?s2, ?s3, ?s4, ?s5, ?s6, ?s7, ?s8, ?s9, ?s10, ?s11, ?s12, ?s13, ?s14, trivial⟩ [some 14, some 15, some 16, some 17, some 18, some 19, some 20, some 21, some 22, some 23, some 24, some 25, some 26, none, some 27] rfl rfl ?send
      case s0 =>
        intro val ρ W hE hz hd hA hx
        have o0 : ρ (.tmp 0) = .slice (some ⟨g, 0, none⟩) n cap := hA.old 0 (by decide)
        clear hd
        exact runq_val (W' := W) (by simp [execOp, o0, go_sem]) (Below.refl _ _) rfl
      case s1 =>
        intro val ρ W hE hz hd hA hx
        have o0 : ρ (.tmp 2) = .int .i64 k := hA.old 2 (by decide)
        clear hd
        exact runq_val (W' := W) (by simp [execOp, o0, go_sem]) (Below.refl _ _) rfl
      case s2 =>
        intro val ρ W hE hz hd hA hx
        have o0 : ρ (.tmp 0) = .slice (some ⟨g, 0, none⟩) n cap := hA.old 0 (by decide)
        clear hd
        exact runq_val (W' := W) (by simp [execOp, o0, go_sem]) (Below.refl _ _) rfl
      case s3 =>
        intro val ρ W hE hz hd hA hx
        have o0 : ρ (.tmp 3) = .int .i64 m := hA.old 3 (by decide)
        clear hd
        exact runq_val (W' := W) (by simp [execOp, o0, go_sem]) (Below.refl _ _) rfl
      case s4 =>
        intro val ρ W hE hz hd hA hx
        have o0 : ρ (.tmp 0) = .slice (some ⟨g, 0, none⟩) n cap := hA.old 0 (by decide)
        clear hd
        exact runq_val (W' := W) (by simp [execOp, o0, go_sem]) (Below.refl _ _) rfl
      case s5 =>
        intro val ρ W hE hz hd hA hx
        have o0 : ρ (.tmp 3) = .int .i64 m := hA.old 3 (by decide)
        clear hd
        exact runq_val (W' := W) (by simp [execOp, o0, go_sem]) (Below.refl _ _) rfl
      case s6 =>
        intro val ρ W hE hz hd hA hx
        have d4 : ρ (.tmp 18) = .slice (some ⟨g, 0, none⟩) n cap := (hA.dep 4 (by decide) 18 rfl).trans (hd 4 (by decide))
        have d5 : ρ (.tmp 19) = .int .i64 m := (hA.dep 5 (by decide) 19 rfl).trans (hd 5 (by decide))
        clear hd
        exact runq_val (W' := W) (by simp [execOp, d4, d5, hmi, go_sem]) (Below.refl _ _) rfl
      case s7 =>
        intro val ρ W hE hz hd hA hx
        have d6 : ρ (.tmp 20) = .pointer (some ⟨g, m, none⟩) := (hA.dep 6 (by decide) 20 rfl).trans (hd 6 (by decide))
        have f_c1 := cell_ext (hx (by decide)) c1
        clear hd
        exact runq_val (W' := W) (by simp [execOp, d6, f_c1, go_sem]) (Below.refl _ _) rfl
      case s8 =>
        intro val ρ W hE hz hd hA hx
        have o0 : ρ (.tmp 0) = .slice (some ⟨g, 0, none⟩) n cap := hA.old 0 (by decide)
        clear hd
        exact runq_val (W' := W) (by simp [execOp, o0, go_sem]) (Below.refl _ _) rfl
      case s9 =>
        intro val ρ W hE hz hd hA hx
        have o0 : ρ (.tmp 2) = .int .i64 k := hA.old 2 (by decide)
        clear hd
        exact runq_val (W' := W) (by simp [execOp, o0, go_sem]) (Below.refl _ _) rfl
      case s10 =>
        intro val ρ W hE hz hd hA hx
        have d8 : ρ (.tmp 22) = .slice (some ⟨g, 0, none⟩) n cap := (hA.dep 8 (by decide) 22 rfl).trans (hd 8 (by decide))
        have d9 : ρ (.tmp 23) = .int .i64 k := (hA.dep 9 (by decide) 23 rfl).trans (hd 9 (by decide))
        clear hd
        exact runq_val (W' := W) (by simp [execOp, d8, d9, hki, go_sem]) (Below.refl _ _) rfl
      case s11 =>
        intro val ρ W hE hz hd hA hx
        have d10 : ρ (.tmp 24) = .pointer (some ⟨g, k, none⟩) := (hA.dep 10 (by decide) 24 rfl).trans (hd 10 (by decide))
        have f_c0 := cell_ext (hx (by decide)) c0
        clear hd
        exact runq_val (W' := W) (by simp [execOp, d10, f_c0, go_sem]) (Below.refl _ _) rfl
      case s12 =>
        intro val ρ W hE hz hd hA hx
        have d0 : ρ (.tmp 14) = .slice (some ⟨g, 0, none⟩) n cap := (hA.dep 0 (by decide) 14 rfl).trans (hd 0 (by decide))
        have d1 : ρ (.tmp 15) = .int .i64 k := (hA.dep 1 (by decide) 15 rfl).trans (hd 1 (by decide))
        clear hd
        exact runq_val (W' := W) (by simp [execOp, d0, d1, hki, go_sem]) (Below.refl _ _) rfl
      case s14 =>
        intro val ρ W hE hz hd hA hx
        have d2 : ρ (.tmp 16) = .slice (some ⟨g, 0, none⟩) n cap := (hA.dep 2 (by decide) 16 rfl).trans (hd 2 (by decide))
        have d3 : ρ (.tmp 17) = .int .i64 m := (hA.dep 3 (by decide) 17 rfl).trans (hd 3 (by decide))
        clear hd
        exact runq_val (W' := W) (by simp [execOp, d2, d3, hmi, go_sem]) (Below.refl _ _) rfl
      case s13 =>
        intro val ρ W hE hz hd hA hx
        have hW := hx (by decide)
        have d12 : ρ (.tmp 26) = .pointer (some ⟨g, k, none⟩) := (hA.dep 12 (by decide) 26 rfl).trans (hd 12 (by decide))
        have d7 : ρ (.tmp 21) = .int .i64 y := (hA.dep 7 (by decide) 21 rfl).trans (hd 7 (by decide))
        have c0' := cell_ext hW c0
        have f0' := (hW.frozen (p := ⟨g, k, none⟩) hzg).trans f0
        clear hd
        refine runq_skip (W' := W.setCell ⟨g, k, none⟩ (.int .i64 y)) (by simp [execOp, d12, d7, go_sem, c0', f0']) ((Below.refl g W).setCell (Nat.le_refl _) _) ⟨(Kept.of_below hW).trans ((Kept.refl _ W).setCell (fun _ h => h rfl) _), (HNBr.out.of_heap (hW.block _ hzg)).set k y, ?_⟩
        obtain ⟨cur, h1, h2⟩ := HSZr.out
        exact ⟨_, heap_setCell_row ((hW.block _ hzg).trans h1) k _, by simpa using h2⟩
      case send =>
        intro val W hE hzz hv
        obtain ⟨-, -, -, -, -, -, -, -, -, -, -, r11, -, ⟨h1, h2, h3⟩, r14, -⟩ := hv
        have q11 : val 11 = .int .i64 x := r11
        have q14 : val 14 = .pointer (some ⟨g, m, none⟩) := r14
        have c1' := h2.cell m (by omega)
        have f1' := h2.free m
        have hzw := h2.lt
        have H1 := Lib.hid h1
        have H2 := Lib.hid h2
        have H3 := Lib.hid h3
        simp only [putD, q11, q14]
        go_frame
        clear r11 r14 q11 q14 h1 h2 h3 hE hzz c0 c1 f0 f1
        go_wp2_with fail
        go_wp2_with fail
        go_roundw
        case rel =>
          refine ⟨k + 1, by omega, by go_num, by rw [HM1.out]; go_num, by omega, ?_, (HKP.out.trans H1.out).trans ((Kept.refl _ W).setCell (fun _ h => h rfl) _), ?_⟩
          · refine (H2.out.set m x).congr fun j hj => ?_
            have := revTo_succ l k j (by rw [← HN.out]; exact hlt)
            have hL := HN.out
            have e1 : x = gt l k := by rw [HX.out]; unfold revTo; rw [if_neg (by omega)]
            have e2 : y = gt l (l.length - 1 - k) := by rw [HY.out]; unfold revTo; rw [if_neg (by have := HM1.out; omega)]; congr 1; have := HM1.out; omega
            rw [← this, ← e1, ← e2]
            have hm2 : m = l.length - 1 - k := by have := HM1.out; omega
            rw [hm2]
          · obtain ⟨cur, h1, h2⟩ := H3.out
            exact ⟨_, heap_setCell_row h1 m _, by simpa using h2⟩
        case measure => simp [intOf]; omega
    · have hd : decide ((k : Int) < (n : Int) - 1 - (k : Int)) = false := decide_eq_false (by omega)
      have hkk2 : ¬ ((k : Int) < (n : Int) - 1 - (k : Int)) := by omega
      clear hnb hkp hsz
      go_wp2_with fail
      refine bodyPost_end (results_none rfl _ _ _) rfl ⟨⟨_, rfl⟩, ?_, HKP.out⟩
      obtain ⟨cur, h1, h2⟩ := HSZr.out
      rw [← List.map_reverse]
      refine NumB.owns (HNBr.out.congr fun j hj => revTo_all l k j (by rw [← HN.out]; exact hj) (by rw [← HN.out]; omega)) (by rw [List.length_reverse]; exact HN.out) hB hc hm fun cur' T fr h => ?_
      rw [h1] at h; cases h
      exact h2
theorem Chain.bd {ks : List Int} (v : TVal ks) {bf : Int → Int} {st : Int} {k : Nat} {y : Int} {row : List Int} (h : Chain ks bf st k y row) : 0 ≤ y ∧ y < prodK ks := by
  cases h with
  | one _ _ h3 => exact nxN_bd v (List.mem_of_getElem? h3)
  | more _ _ _ _ _ h3 => exact nxN_bd v (List.mem_of_getElem? h3)
theorem Chain.step {ks : List Int} (v : TVal ks) {bf : Int → Int} {st : Nat} (hst : (st : Int) < prodK ks) {k : Nat} {y : Int} {row : List Int} (h : Chain ks bf st k y row) :
    ∃ (z w : Nat) (row' : List Int), bf y = 1 + (z : Int) * 5 + w ∧ w < ks.length ∧ (z : Int) < prodK ks ∧ row = row' ++ [(w : Int)] ∧ ((z = st ∧ row' = []) ∨ (z ≠ st ∧ ∃ k', Chain ks bf st k' (z : Int) row')) := by
  cases h with
  | @one y w h1 h2 h3 => exact ⟨st, w, [], h1, h2, hst, rfl, .inl ⟨rfl, rfl⟩⟩
  | @more k y z w row h1 hz hz0 h2 h3 h4 =>
    have := h1.bd v
    obtain ⟨m, rfl⟩ : ∃ m : Nat, z = (m : Int) := ⟨z.toNat, by omega⟩
    exact ⟨m, w, row, h2, h3, this.2, rfl, .inr ⟨fun e => hz (by rw [e]), k, h1⟩⟩
def slLen (v : Value) : Nat := match v with | .slice _ n _ => n | _ => 0
set_option maxRecDepth 100000 in
set_option maxHeartbeats 2000000 in
theorem back_any (ks : List Int) (bf : Int → Int) (st k0 : Nat) (row : List Int) (tv : Value) (bb bo bc : Nat) (w : World) (v : TVal ks) (hst : st < nSt ks) (hch : Chain ks bf st k0 st row) (hl : row.length ≤ 100000)
    (hb : ∀ i, i < nSt ks → w.cell? ⟨bb, bo + i, none⟩ = some (.int .i64 (bf i))) :
    Calls Try.prog 100 #[tv, .slice (some ⟨bb, bo, none⟩) (nSt ks) bc, .int .i64 st] w fun e W => ∃ r, e = .returned r ∧ Ext w W ∧ IsInts W .i64 r row := by
  have hN := nSt_le v
  have hNe := nSt_eq v
  have n5 := v.n5
  have V := Lib.hid v
  have HB := Lib.hid hb
  have HCH := Lib.hid hch
  have NE := Lib.hid hNe
  obtain ⟨N, hNN⟩ : ∃ N, N = nSt ks := ⟨_, rfl⟩
  rw [← hNN] at HB NE hst hN ⊢
  clear v hb hch hNe hNN
  go_enter Try.func100, Try.ntmps100
  go_wp2_with fail
  go_loopw [7, 8] (fun ov av W => ∃ (a : Nat) (out row' : List Int) (k' : Nat), av = .int .i64 a ∧ Chain ks bf st k' a row' ∧ row = row' ++ out.reverse ∧ Ext w W ∧ Owns W w.heap.size 3 1 ov (out.map iRow)) (fun ov _ _ => row.length - slLen ov)
  case atStart => exact ⟨st, [], row, k0, rfl, HCH.out, by simp, Below.refl _ _, Owns.nil _ _ _ _⟩
  case round =>
    obtain ⟨a, out, row', k', rfl, hch, hrow, hE, hown⟩ := hrel
    obtain ⟨oa, on, oc, rfl⟩ := hown.isSlice
    have hon : on = out.length := by
      obtain ⟨_, _, e, _⟩ := hown.form
      simp only [Value.slice.injEq, List.length_map] at e
      exact e.2.1
    have hab := hch.bd V.out
    obtain ⟨z, x, row2, hbf, hx, hz, hr2, hnext⟩ := hch.step V.out (by have := NE.out; omega)
    have haN : a < N := by have := NE.out; omega
    have hai : (a : Int) < (N : Int) := by omega
    have hzN : z < N := by have := NE.out; omega
    have c0 := cell_ext hE (HB.out a haN)
    obtain ⟨y, hy⟩ : ∃ y, y = bf a := ⟨_, rfl⟩
    rw [← hy] at hbf c0
    have HBW : Hid (∀ W, Ext w W → W.cell? ⟨bb, bo + a, none⟩ = some (.int .i64 y)) := Lib.hid fun W h => by rw [hy]; exact cell_ext h (HB.out a haN)
    have ht1 : (y - 1).tmod 5 = (x : Int) := by
      rw [hbf, Int.tmod_eq_emod_of_nonneg (by omega)]; omega
    have ht2 : (y - 1).tdiv 5 = (z : Int) := by
      rw [hbf, Int.tdiv_eq_ediv_of_nonneg (by omega)]; omega
    have hyb : 1 ≤ y ∧ y ≤ 6000 := by omega
    have hlen : (out.map iRow).length + [iRow (x : Int)].length ≤ 1000000 := by
      have := congrArg List.length hrow
      simp at this
      rw [List.length_map]; show _ + 1 ≤ _; omega
    have HLEN := Lib.hid hlen
    have HROW := Lib.hid hrow
    have HR2 := Lib.hid hr2
    have HE := Lib.hid hE
    have HOWN := Lib.hid hown
    have HON := Lib.hid hon
    have hsz := hE.size
    have HNEXT := Lib.hid hnext
    clear hch hrow hr2 hE hown hnext hlen hbf hy hab hz hon
    go_wp2_with (at_builtin; refine wpOwn rfl (.tmp 10) (.tmp 17) elInt rfl w.heap.size rfl (HOWN.out.ext (by exact (by repeat (first | exact Below.refl _ _ | refine Ext.al ?_ _ | refine Ext.dr ?_ | refine Ext.drN ?_ _ | refine Ext.gr ?_ _ | refine Ext.set ?_ (by simp) _ | (refine Ext.trans' ?_ (by assumption)))))) wr.heap.size 0 1 [iRow (x : Int)] rfl (by simp [iRow]) (newRow _ (iRow (x : Int)) _) (by simp [iRow, Value.oneCell']) HLEN.out (by simp; omega) ?_)
    intro v' W1 hown1 hb1
    have hE1 : Ext w W1 := (HE.out.trans' (by exact (by repeat (first | exact Below.refl _ _ | refine Ext.al ?_ _ | refine Ext.dr ?_ | refine Ext.drN ?_ _ | refine Ext.gr ?_ _ | refine Ext.set ?_ (by simp) _ | (refine Ext.trans' ?_ (by assumption)))))).trans hb1
    have c1 := HBW.out _ hE1
    obtain ⟨va, vn, vc, rfl⟩ := hown1.isSlice
    have hvn : vn = out.length + 1 := by
      obtain ⟨_, _, e, _⟩ := hown1.form
      simp only [Value.slice.injEq, List.length_append, List.length_map] at e
      exact e.2.1
    have HVN := Lib.hid hvn
    have e1 : out.map iRow ++ [iRow (x : Int)] = (out ++ [(x : Int)]).map iRow := by simp
    rw [e1] at hown1
    obtain ⟨g, rfl⟩ : ∃ g, va = some ⟨g, 0, none⟩ := by
      obtain ⟨_, _, e, _, _, hf⟩ := hown1.form
      simp only [Value.slice.injEq] at e
      rcases hf with ⟨h0, _⟩ | ⟨g, h0, _⟩
      · simp at h0
      · exact ⟨g, e.1.trans h0⟩
    have HOWN1 := Lib.hid hown1
    have HE1 := Lib.hid hE1
    clear hown1 hb1 hE1 c0 e1 hvn
    by_cases hzs : z = st
    · have hzi : ((z : Int) == (st : Int)) = true := by simp; omega
      have hrr : row = (out ++ [(x : Int)]).reverse := by
        have h1 := HROW.out
        rcases HNEXT.out with ⟨_, h2⟩ | ⟨h2, _⟩
        · rw [h1, HR2.out, h2]; simp
        · exact absurd hzs h2
      have HRR := Lib.hid hrr
      subst hzs
      clear hrr hzi
      go_wp2_with fail
      refine (reverse_any _ g vn vc w.heap.size W1 HOWN1.out).mono ?_
      rintro e W2 ⟨⟨r, rfl⟩, hown2, hk2⟩
      have hE2 : Ext w W2 := HE1.out.trans (Kept.below (hk2.mono fun j _ hj e => by have := (HOWN1.out.notOwn g rfl).1; omega) HE1.out.size)
      have HOWN2 := Lib.hid hown2
      have HE2 := Lib.hid hE2
      clear hown2 hk2 hE2
      go_wp2_with fail
      go_ret
      exact ⟨_, rfl, HE2.out, by rw [HRR.out]; exact HOWN2.out.oneInts⟩
    · have hzi : ((z : Int) == (st : Int)) = false := by simp; omega
      have hzn : ¬ ((z : Int) = (st : Int)) := by omega
      obtain ⟨k2, hch2⟩ : ∃ k', Chain ks bf st k' (z : Int) row2 := by
        rcases HNEXT.out with ⟨h2, _⟩ | ⟨_, h2⟩
        · exact absurd h2 hzs
        · exact h2
      have HCH2 := Lib.hid hch2
      clear hch2
      go_wp2_with fail
      go_roundw
      case rel => exact ⟨z, out ++ [(x : Int)], row2, k2, rfl, HCH2.out, by rw [HROW.out, HR2.out]; simp, HE1.out, HOWN1.out⟩
      case measure =>
        have h1 := congrArg List.length HROW.out
        rw [HR2.out] at h1
        have h2 := HVN.out
        have h3 := HON.out
        simp at h1
        simp [slLen]
        omega
end Go.Proofs.Ytndgaklcnhoddaa
namespace Go.Proofs.Ytndgaklcnhoddaa
open Go.RowKit Go.Shelf
def Que (W : World) (B : Nat) (v : Value) (q : List Int) : Prop :=
  ∃ g off cap cur, v = .slice (some ⟨g, off, none⟩) q.length cap ∧ q.length ≤ cap ∧ cap ≤ 9223372036854775807 ∧ B ≤ g ∧ W.heap[g]? = some (.cells cur 3 (0, 0)) ∧ (cap = 0 ∨ (off + cap = cur.size ∧ ∀ j (h : j < q.length), cur[off + j]? = some (.int .i64 q[j])))
theorem Que.kept {S : Nat → Prop} {W W' : World} {B : Nat} {v : Value} {q : List Int} (h : Que W B v q) (k : Kept S W W') (hs : ∀ g cur, B ≤ g → v.ownBlock = some g → W.heap[g]? = some (.cells cur 3 (0, 0)) → S g) : Que W' B v q := by
  obtain ⟨g, off, cap, cur, rfl, h1, h2, hB, hc, h3⟩ := h
  exact ⟨g, off, cap, cur, rfl, h1, h2, hB, (k.same g (Array.getElem?_eq_some_iff.1 hc).1 (hs g cur hB rfl hc)).trans hc, h3⟩
theorem Que.ext {W W' : World} {B : Nat} {v : Value} {q : List Int} (h : Que W B v q) (e : Ext W W') : Que W' B v q := h.kept (S := fun _ => True) (.of_below e) (fun _ _ _ _ _ => trivial)
theorem Que.own {W : World} {B : Nat} {v : Value} {q : List Int} (h : Que W B v q) : ∀ g, v.ownBlock = some g → B ≤ g ∧ ∃ cur, W.heap[g]? = some (.cells cur 3 (0, 0)) := fun g hg => by
  obtain ⟨g', off, cap, cur, rfl, h1, h2, hB, hc, h3⟩ := h
  cases hg
  exact ⟨hB, cur, hc⟩
theorem Que.form {W : World} {B : Nat} {v : Value} {q : List Int} (h : Que W B v q) : ∃ a n cap, v = .slice (some a) n cap := by
  obtain ⟨g', off, cap, cur, rfl, _⟩ := h
  exact ⟨_, _, _, rfl⟩
theorem Owns.que {W : World} {B : Nat} {v : Value} {l : List Int} (h : Owns W B 3 1 v (l.map iRow)) (hne : l ≠ []) : Que W B v l := by
  obtain ⟨sa, cap, rfl, h1, h2, hf⟩ := h.form
  rcases hf with ⟨h0, _⟩ | ⟨g, rfl, _⟩
  · exact absurd (List.map_eq_nil_iff.1 h0) hne
  · obtain ⟨hn, hc, hm, hB, cur, hh, hs, hq⟩ := h.numB
    rcases h.1.2 with ⟨hv, _⟩ | ⟨g', cap', cur', hv, _, hg', _, _, hsz, _⟩
    · cases hv
    · simp only [Value.slice.injEq, Option.some.injEq, Addr.mk.injEq] at hv
      obtain ⟨⟨rfl, -, -⟩, -, rfl⟩ := hv
      rw [hh] at hg'; cases hg'
      refine ⟨_, _, _, cur, by rw [hn], by rw [← hn]; exact hc, hm, hB, hh, .inr ⟨by omega, fun j hj => ?_⟩⟩
      rw [Nat.zero_add, hq j (by omega), gt_get hj]
theorem que_app {w : World} {B : Nat} {v : Value} {q : List Int} (h : Que w B v q) (hB : B ≤ w.heap.size) (ty : TypeId) (x : Int) (b c : Nat) (hx : w.cell? ⟨b, 0, none⟩ = some (.int .i64 x)) (hn : q.length + 1 ≤ 1000000) :
    ∃ v' w', (Builtin.append_ #[22, 22] ty #[v, .slice (some ⟨b, 0, none⟩) 1 c]).run Try.prog w = .ok v' w' ∧ Que w' B v' (q ++ [x]) ∧ Kept (fun k => some k ≠ v.ownBlock) w w' := by
  obtain ⟨i, z, hi, hz, hsi, hby, hzs⟩ := elInt.info
  obtain ⟨g, off, cap, cur, rfl, h1, h2, hBg, hc, h3⟩ := h
  have hnews : ∀ j u, [Value.int .i64 x][j]? = some u → w.cell? ((⟨b, 0, none⟩ : Addr).add j) = some u := fun j u hj => by
    rw [addr_add]
    match j with
    | 0 => simp at hj; subst hj; simpa using hx
    | j + 1 => simp at hj
  by_cases hroom : q.length + 1 ≤ cap
  · rcases h3 with h3 | ⟨hsz, hq⟩
    · omega
    have hlt : off + q.length < cur.size := by omega
    have hcell : (w.cell? ⟨g, off + q.length, none⟩).isSome = true := by rw [cell_of_row _ _ _ _ _ _ hc]; simp [hlt]
    have hr := run_append_room_cells (P := Try.prog) w 22 ty 3 i elInt.und hi g off q.length cap ⟨b, 0, none⟩ 1 c [.int .i64 x] (by simp [hsi]) hnews (by simp [Value.oneCell']) hroom
      (fun j hj => by have : j = 0 := by simpa using hj
                      subst this; rw [hsi, Nat.mul_one, Nat.add_zero]; exact hcell) (fun j hj => by simp [World.frozen?, hc])
    rw [hsi, Nat.mul_one] at hr
    refine ⟨_, _, hr, ⟨g, off, cap, _, by simp, by simpa using hroom, h2, hBg, heap_setCell_row hc (off + q.length) (.int .i64 x), .inr ⟨by simpa using hsz, fun j hj => ?_⟩⟩, (Kept.refl _ w).setCell (fun _ h => h rfl) _⟩
    by_cases e : j = q.length
    · subst e
      rw [set_on _ hlt]
      simp
    · rw [Array.getElem?_setIfInBounds, if_neg (by omega)]
      have hj2 : j < q.length := by simp at hj; omega
      rw [hq j hj2]
      simp [List.getElem_append_left hj2]
  · obtain ⟨v', w', hrun, ho, hg2⟩ := run_append_arg_grows (P := Try.prog) w 22 ty 3 i z 1 i.bytes elInt.und hi hz hsi rfl hzs (by omega) ⟨g, off, none⟩ q.length cap (q.map (Value.int .i64)) (by simp)
      (fun j u hj => by
        rcases h3 with h3 | ⟨hsz, hq⟩
        · have : q = [] := List.eq_nil_of_length_eq_zero (by omega)
          subst this; simp at hj
        · rw [addr_add, cell_of_row _ _ _ _ _ _ hc]
          rw [List.getElem?_map] at hj
          obtain ⟨y, hy, rfl⟩ := Option.map_eq_some_iff.1 hj
          obtain ⟨hjl, rfl⟩ := List.getElem?_eq_some_iff.1 hy
          exact hq j hjl) ⟨b, 0, none⟩ 1 c [.int .i64 x] (by simp) hnews (by omega) (by simp [maxLen]; omega) (by have := Nat.mul_le_mul hn hby; omega)
    have ho' : Owns w' w.heap.size 3 1 v' ((q ++ [x]).map iRow) := by
      refine ⟨?_, fun r hr => by obtain ⟨y, _, rfl⟩ := List.mem_map.1 hr; rfl⟩
      have e : ((q ++ [x]).map iRow).flatten = q.map (Value.int .i64) ++ [.int .i64 x] := by
        have : ∀ l : List Int, (l.map iRow).flatten = l.map (Value.int .i64) := fun l => by
          induction l with
          | nil => rfl
          | cons y l ih => simp [iRow, ih]
        rw [this]; simp
      rw [e]
      simpa using ho
    obtain ⟨g', off', cap', cur', e1, e2, e3, e4, e5, e6⟩ := ho'.que (by simp)
    exact ⟨v', w', hrun, ⟨g', off', cap', cur', e1, e2, e3, by omega, e5, e6⟩, (Kept.refl _ w).grown hg2 (fun k hk => by cases hk)⟩
theorem wpQue {w : World} {ops : Array Oper} {rest : List Oper} {o : Oper} {a : Act} {Q : Exit → Act → World → Prop} (hgd : o.guard = none) (s x : Operand)
    (ho : o.op = .call { callee := .builtin .append, args := #[s, x], argTypes := #[22, 22] }) (B : Nat) {v : Value} {q : List Int} (hs : a.eval s = v) (h : Que w B v q) (y : Int) (b c : Nat) (hx : a.eval x = .slice (some ⟨b, 0, none⟩) 1 c) (hc : w.cell? ⟨b, 0, none⟩ = some (.int .i64 y))
    (hn : q.length + 1 ≤ 1000000) (hB : B ≤ w.heap.size)
    (hk : ∀ v' w', Que w' B v' (q ++ [y]) → Kept (fun k => some k ≠ v.ownBlock) w w' → wpList Try.prog ops Q rest (a.put o.dst v') w') : wpList Try.prog ops Q (o :: rest) a w :=
  wpList_plain hgd fun K hK => by
    obtain ⟨v', w', hrun, h2, h3⟩ := que_app h hB o.type y b c hc hn
    unfold Oper.wp execOp
    simp only [ho, resolve, invoke, builtin, Sem.run_bind, Sem.run_pure, Result.andThen_ok, List.map_toArray, List.map_cons, List.map_nil, hs, hx, hrun]
    exact hK _ _ (hk v' w' h2 h3)
/-- new numbers, all of them 0 -/
theorem make_ints (w : World) (N : Nat) (hN : N ≤ 1000000) : ∃ w', (Instr.makeSlice 22 (.int .i64 (N : Int)) (.int .i64 (N : Int))).run Try.prog w = .ok (.slice (some ⟨w.heap.size, 0, none⟩) N N) w' ∧ NumB w' w.heap.size N (fun _ => 0) ∧ Ext w w' := by
  obtain ⟨i, z, hi, hz, hsi, hby, hzs⟩ := elInt.info
  have hz0 : z = .int .i64 0 := by
    have h1 : (Try.prog.info? 3).map (fun i => i.zero) = some (some (.int .i64 0)) := by kernel_rfl
    rw [hi] at h1
    simp [hz] at h1
    exact h1
  subst hz0
  obtain ⟨w', hrun, hown, hg⟩ := run_makeSlice_full (P := Try.prog) w w.heap.size 22 3 i (.int .i64 0) 1 elInt.und hi hz hsi .i64 .i64 N (by omega) (by have := Nat.mul_le_mul hby hN; omega) (by simp [maxLen]; omega) (Nat.le_refl _)
  rw [Nat.mul_one] at hown
  obtain ⟨cur, hc, hI⟩ := made_ints hown
  exact ⟨w', hrun, ⟨cur, hc, by rw [hI.size]; omega, fun j hj => hI.at_ j hj⟩, (Below.refl _ w).grown hg (Nat.le_refl _) fun k hk => by cases hk⟩
theorem Que.spec {W : World} {B : Nat} {v : Value} {x : Int} {q : List Int} (h : Que W B v (x :: q)) : ∃ g off cap, v = .slice (some ⟨g, off, none⟩) (q.length + 1) cap ∧ q.length + 1 ≤ cap ∧ cap ≤ 9223372036854775807 ∧ W.cell? ⟨g, off, none⟩ = some (.int .i64 x) ∧
    ∀ v', (v' = .slice (some ⟨g, off + 1, none⟩) q.length (cap - 1) ∨ (cap - 1 = 0 ∧ v' = .slice (some ⟨g, off, none⟩) q.length (cap - 1))) → Que W B v' q := by
  obtain ⟨g, off, cap, cur, rfl, h1, h2, hBg, hc, h3⟩ := h
  simp only [List.length_cons] at h1
  rcases h3 with h3 | ⟨hsz, hq⟩
  · omega
  refine ⟨g, off, cap, rfl, h1, h2, ?_, fun v' hv' => ?_⟩
  · rw [cell_of_row _ _ _ _ _ _ hc]
    have := hq 0 (by simp)
    simpa using this
  · rcases hv' with rfl | ⟨h0, rfl⟩
    · exact ⟨g, off + 1, cap - 1, cur, rfl, by omega, by omega, hBg, hc, .inr ⟨by omega, fun j hj => by
        have := hq (j + 1) (by simpa using hj)
        rw [show off + 1 + j = off + (j + 1) by omega, this]; simp⟩⟩
    · exact ⟨g, off, cap - 1, cur, rfl, by omega, by omega, hBg, hc, .inl h0⟩
/-- append onto a slice that a call has made itself: where the new one lies -/
theorem wpAt {w : World} {ops : Array Oper} {rest : List Oper} {o : Oper} {a : Act} {Q : Exit → Act → World → Prop} (hgd : o.guard = none) (s x : Operand) {t e : TypeId} {sz : Nat} (el : El t e sz)
    (ho : o.op = .call { callee := .builtin .append, args := #[s, x], argTypes := #[t, t] }) (B : Nat) {v : Value} {rows : List (List Value)} (hs : a.eval s = v) (hown : Owns w B e sz v rows)
    (b off c : Nat) (news : List (List Value)) (hx : a.eval x = .slice (some ⟨b, off, none⟩) news.length c) (hr : ∀ r ∈ news, r.length = sz) (hc : RowsAt w sz b off news) (h1 : ∀ r ∈ news, ∀ u ∈ r, u.oneCell' = true)
    (hn : rows.length + news.length ≤ 1000000) (hB : B ≤ w.heap.size)
    (h : ∀ v' w', Owns w' B e sz v' (rows ++ news) → Kept (fun k => some k ≠ v.ownBlock) w w' → (∀ g, v'.ownBlock = some g → v.ownBlock = some g ∨ w.heap.size ≤ g) → wpList Try.prog ops Q rest (a.put o.dst v') w') : wpList Try.prog ops Q (o :: rest) a w :=
  wpList_plain hgd fun K hK => by
    obtain ⟨v', w', hrun, h2, h3, h4⟩ := app_at el o.type B hown b off c news hr hc h1 hn hB
    unfold Oper.wp execOp
    simp only [ho, resolve, invoke, builtin, Sem.run_bind, Sem.run_pure, Result.andThen_ok, List.map_toArray, List.map_cons, List.map_nil, hs, hx, hrun]
    exact hK _ _ (h v' w' h2 h3 h4)
end Go.Proofs.Ytndgaklcnhoddaa
namespace Go.Proofs.Ytndgaklcnhoddaa
open Go.RowKit Go.Shelf
/-- what open answers -/
def RetOpen (ks l : List Int) (w : World) (e : Ending) (w' : World) : Prop :=
  (stErr ks l ≠ 0 ∧ e = .returned (.tuple #[.pointer none, stV [], .int .i64 (stErr ks l)]) ∧ Ext w w') ∨ (stErr ks l = 0 ∧ ∃ p, e = .returned (.tuple #[.pointer (some ⟨p, 0, none⟩), stV l, .int .i64 0]) ∧ Ext w w' ∧ Tab w' p ks)
set_option maxRecDepth 100000 in
set_option maxHeartbeats 2000000 in
theorem open_any (ks l : List Int) (kv lv : Value) (w : World) (hv : IsInts w .i64 kv ks) (hl : IsInts w .i64 lv l) :
    Calls Try.prog 80 #[.agg #[kv], lv] w (RetOpen ks l w) := by
  obtain ⟨sa, cap, rfl, h1, h2, -⟩ := hv.spec
  have HKV : Hid (TVal ks → ∀ g, (Value.slice sa ks.length cap).ownBlock = some g → g < w.heap.size) := Lib.hid fun v g hg => by
    obtain ⟨_, _, e, _, _, hc⟩ := hv.spec
    cases e
    rcases hc with hc | ⟨b, off, rfl, hc⟩
    · have := v.n1; rw [hc] at this; simp at this
    · have := World.block_lt_of_cell? _ _ (hc 0 v.n1)
      simp [Value.ownBlock] at hg
      simp only at this
      omega
  have HV := Lib.hid hv
  have HL := Lib.hid hl
  clear hv hl
  have hcs := fun W h1 h2 => stated_any ks l (.slice sa ks.length cap) lv W h1 h2
  unfold RetStated at hcs
  simp only [stV_eq] at hcs
  obtain ⟨er, her⟩ : ∃ er, er = stErr ks l := ⟨_, rfl⟩
  obtain ⟨s, hs⟩ : ∃ s, s = (if stErr ks l = 0 then l else []) := ⟨_, rfl⟩
  rw [← hs, ← her] at hcs
  have HCS := Lib.hid hcs
  have HER := Lib.hid her
  have HSS := Lib.hid hs
  clear hcs her hs
  go_enter Try.func80, Try.ntmps80
  go_upto_region 1 with (fail)
  obtain ⟨W0, hW0⟩ : ∃ W0, W0 = (w.alloc (.cells #[.slice sa ks.length cap] 24)).alloc (.cells #[.int .i64 0, .int .i64 0, .int .i64 0, .int .i64 0, .int .i64 0] 73) := ⟨_, rfl⟩
  have hE : Ext w W0 := by rw [hW0]; exact (by repeat (first | exact Below.refl _ _ | refine Ext.al ?_ _ | refine Ext.dr ?_ | refine Ext.drN ?_ _ | refine Ext.gr ?_ _ | refine Ext.set ?_ (by simp) _ | (refine Ext.trans' ?_ (by assumption))))
  have k0 : W0.cell? ⟨w.heap.size, 0, none⟩ = some (.slice sa ks.length cap) := by rw [hW0]; simp [go_sem]
  have hr0 : StB W0 (w.heap.size + 1) [] := by
    rw [hW0]; show (Array.push (Array.push _ _) _)[w.heap.size + 1]? = _; rw [Array.getElem?_push, if_pos (by simp)]; rfl
  have hz : w.heap.size < W0.heap.size := World.block_lt_of_cell? _ _ k0
  have HS := Lib.hid (HV.out.ext hE)
  have HT := Lib.hid (HL.out.ext hE)
  have HW := Lib.hid hE
  have HR0 := Lib.hid hr0
  rw [← hW0]
  clear hW0 HV HL hE hr0
  go_wp2_with fail
  refine (HCS.out _ HS.out HT.out).mono ?_
  rintro e W1 ⟨rfl, hE1⟩
  have k1 := cell_ext hE1 k0
  have hr1 := HR0.out.ext hE1
  have hz1 := hr1.lt
  have HE1 := Lib.hid hE1
  have HS1 := Lib.hid (HS.out.ext hE1)
  have HR1 := Lib.hid hr1
  clear hE1 HCS k0 hz HS HT HR0
  have c0r := (hr1).c 0 (by omega)
  have c1r := (hr1).c 1 (by omega)
  have c2r := (hr1).c 2 (by omega)
  have c3r := (hr1).c 3 (by omega)
  have c4r := (hr1).c 4 (by omega)
  have cfr := (hr1).free
  have czr := (hr1).lt
  by_cases he : er = 0
  · have he1 : (er == 0) = true := by simpa using he
    have he2 : (er != 0) = false := by simpa using he
    obtain ⟨v, hst⟩ := stErr_ok (HER.out.symm.trans he)
    have V := Lib.hid v
    have hsl : s = l := by rw [HSS.out, if_pos (HER.out.symm.trans he)]
    have HSL := Lib.hid hsl
    have HEE := Lib.hid he
    clear he v hst hsl
    go_wp2_with fail
    obtain ⟨Y, hY⟩ : ∃ Y, W1.alloc (.cells #[.int .i64 (gt s 0), .int .i64 (gt s 1), .int .i64 (gt s 2), .int .i64 (gt s 3), .int .i64 (gt s 4)] 73) = Y := ⟨_, rfl⟩
    have hEY : Ext W1 Y := by rw [← hY]; exact (by repeat (first | exact Below.refl _ _ | refine Ext.al ?_ _ | refine Ext.dr ?_ | refine Ext.drN ?_ _ | refine Ext.gr ?_ _ | refine Ext.set ?_ (by simp) _ | (refine Ext.trans' ?_ (by assumption))))
    have hbs : StB Y W1.heap.size s := by rw [← hY]; exact StB.new W1 s
    rw [hY]
    have hry := hr1.ext hEY
    have ky := cell_ext hEY k1
    have HSY := Lib.hid (HS1.out.ext hEY)
    have HWY := Lib.hid (HW.out.trans' (HE1.out.trans' hEY))
    have c0s := (hbs).c 0 (by omega)
    have c1s := (hbs).c 1 (by omega)
    have c2s := (hbs).c 2 (by omega)
    have c3s := (hbs).c 3 (by omega)
    have c4s := (hbs).c 4 (by omega)
    have cfs := (hbs).free
    have czs := (hbs).lt
    have c0y := (hry).c 0 (by omega)
    have c1y := (hry).c 1 (by omega)
    have c2y := (hry).c 2 (by omega)
    have c3y := (hry).c 3 (by omega)
    have c4y := (hry).c 4 (by omega)
    have cfy := (hry).free
    have czy := (hry).lt
    have HRY := Lib.hid hry
    clear hY hEY hbs hry c0r c1r c2r c3r c4r cfr czr k1 hr1 HR1 HS1
    go_region_with (go_at_call 73; refine (newTableS_any ks _ _ V.out (HSY.out.ext (by exact (by repeat (first | exact Below.refl _ _ | refine Ext.al ?_ _ | refine Ext.dr ?_ | refine Ext.drN ?_ _ | refine Ext.gr ?_ _ | refine Ext.set ?_ (by simp) _ | (refine Ext.trans' ?_ (by assumption))))))).mono ?_; rintro e W2 ⟨p, rfl, hE20, hT2⟩; have hE2 : Ext Y W2 := Ext.trans' (by exact (by repeat (first | exact Below.refl _ _ | refine Ext.al ?_ _ | refine Ext.dr ?_ | refine Ext.drN ?_ _ | refine Ext.gr ?_ _ | refine Ext.set ?_ (by simp) _ | (refine Ext.trans' ?_ (by assumption))))) hE20; clear hE20; have HT2 := Lib.hid hT2; have HE2 := Lib.hid hE2; have d0 := cell_ext hE2 c0s; have d1 := cell_ext hE2 c1s; have d2 := cell_ext hE2 c2s; have d3 := cell_ext hE2 c3s; have d4 := cell_ext hE2 c4s; have hr2 := HRY.out.ext hE2; have g0 := hr2.c 0 (by omega); have g1 := hr2.c 1 (by omega); have g2 := hr2.c 2 (by omega); have g3 := hr2.c 3 (by omega); have g4 := hr2.c 4 (by omega); have gf := hr2.free; have gz := hr2.lt; have HR2 := Lib.hid hr2; clear hT2 hE2 hr2)
    all_goals
      have hset := below_set5 (HWY.out.trans' HE2.out) (show w.heap.size ≤ w.heap.size + 1 by omega) (.int .i64 (gt s 0)) (.int .i64 (gt s 1)) (.int .i64 (gt s 2)) (.int .i64 (gt s 3)) (.int .i64 (gt s 4))
      have htab := (HT2.out.kept (W' := ((((W2.setCell ⟨w.heap.size + 1, 0, none⟩ (.int .i64 (gt s 0))).setCell ⟨w.heap.size + 1, 1, none⟩ (.int .i64 (gt s 1))).setCell ⟨w.heap.size + 1, 2, none⟩ (.int .i64 (gt s 2))).setCell ⟨w.heap.size + 1, 3, none⟩ (.int .i64 (gt s 3))).setCell ⟨w.heap.size + 1, 4, none⟩ (.int .i64 (gt s 4))) (by
        have hs : ¬ (Y.heap.size ≤ w.heap.size + 1 ∨ (Value.slice sa ks.length cap).ownBlock = some (w.heap.size + 1)) := fun h => by
          rcases h with h | h
          · omega
          · have := HKV.out V.out _ h; omega
        exact (((((Kept.refl _ W2).setCell (fun _ => hs) _).setCell (fun _ => hs) _).setCell (fun _ => hs) _).setCell (fun _ => hs) _).setCell (fun _ => hs) _)).tab
      have HSET := Lib.hid hset
      have HTAB := Lib.hid htab
      clear hset htab
      go_wp2_with fail
      refine bodyPost_ret (v := .tuple #[.pointer (some ⟨p, 0, none⟩), stV s, .int .i64 0]) (by simp [results, Try.results80, go_sem, stV, stA, g0, g1, g2, g3, g4]) rfl ?_
      exact .inr ⟨HER.out.symm.trans HEE.out, p, by rw [HSL.out], HSET.out, HTAB.out⟩
  · have he1 : (er == 0) = false := by simpa using he
    have he2 : (er != 0) = true := by simpa using he
    have HEE := Lib.hid he
    clear he
    go_wp2_with fail
    refine bodyPost_ret (v := .tuple #[.pointer none, stV [], .int .i64 er]) (by simp [results, Try.results80, go_sem, stV, stA, gt, c0r, c1r, c2r, c3r, c4r, czr]) rfl ?_
    refine .inl ⟨by rw [← HER.out]; exact HEE.out, by rw [HER.out], ?_⟩
    exact Ext.al (below_set5 (b := w.heap.size + 1) (HW.out.trans' HE1.out) (by omega) _ _ _ _ _) _
end Go.Proofs.Ytndgaklcnhoddaa
namespace Go.Proofs.Ytndgaklcnhoddaa
open Go.RowKit Go.Shelf
theorem nodup_sub {α : Type} [DecidableEq α] : ∀ (l m : List α), l.Nodup → (∀ x ∈ l, x ∈ m) → l.length ≤ m.length
  | [], m, _, _ => by simp
  | x :: l, m, hn, hs => by
    rw [List.nodup_cons] at hn
    have h1 := hs x (by simp)
    have h2 := nodup_sub l (m.erase x) hn.2 fun y hy => (List.mem_erase_of_ne (fun e => by subst e; exact hn.1 hy)).2 (hs y (by simp [hy]))
    rw [List.length_erase_of_mem h1] at h2
    have : 0 < m.length := List.length_pos_of_mem h1
    simp; omega
/-- how many states are safe -/
noncomputable def cntN (ks : List Int) : Nat := ((List.range (nSt ks)).filter fun (i : Nat) => decide (rkN ks i < 0)).length
theorem map_count {ks : List Int} (v : TVal ks) {es : Ents Int Unit} (ho : Once es) (hg : ∀ k, getE es k = FofR ks (rkN ks) k) : es.length = cntN ks := by
  have hNe := nSt_eq v
  have hm : ∀ x, x ∈ es.map (·.1) ↔ x ∈ ((List.range (nSt ks)).filter fun (i : Nat) => decide (rkN ks i < 0)).map fun (i : Nat) => (i : Int) := fun x => by
    constructor
    · intro h
      obtain ⟨e, he, rfl⟩ := List.mem_map.1 h
      have h1 := fofR_some ((hg e.1).symm.trans (getE_mem ho he))
      refine List.mem_map.2 ⟨e.1.toNat, List.mem_filter.2 ⟨List.mem_range.2 (by omega), ?_⟩, by omega⟩
      have : ((e.1.toNat : Nat) : Int) = e.1 := by omega
      rw [this]; simpa using h1.2.2
    · intro h
      obtain ⟨i, hi, rfl⟩ := List.mem_map.1 h
      obtain ⟨h1, h2⟩ := List.mem_filter.1 hi
      obtain ⟨e, he, h3⟩ := mem_getE ((hg i).trans (fofR_of ⟨by omega, by have := List.mem_range.1 h1; omega, by simpa using h2⟩))
      exact List.mem_map.2 ⟨e, he, h3⟩
  have hn2 : (((List.range (nSt ks)).filter fun (i : Nat) => decide (rkN ks i < 0)).map fun (i : Nat) => (i : Int)).Nodup := nodup_map _ (List.Nodup.sublist List.filter_sublist List.nodup_range) fun x _ y _ e => by omega
  have h1 := nodup_sub _ _ ho fun x hx => (hm x).1 hx
  have h2 := nodup_sub _ _ hn2 fun x hx => (hm x).2 hx
  simp only [List.length_map] at h1 h2
  unfold cntN
  omega
noncomputable def countErr (ks : List Int) : Int × Int := if tchk ks ≠ 0 then (0, tchk ks) else (cntN ks, 0)
set_option maxRecDepth 100000 in
set_option maxHeartbeats 1000000 in
theorem count_any (ks : List Int) (kv : Value) (w : World) (hv : IsInts w .i64 kv ks) :
    Calls Try.prog 44 #[.agg #[kv]] w fun e W => e = .returned (.tuple #[.int .i64 (countErr ks).1, .int .i64 (countErr ks).2]) ∧ Ext w W := by
  obtain ⟨sa, cap, rfl, h1, h2, -⟩ := hv.spec
  have HV := Lib.hid hv
  clear hv
  obtain ⟨t, ht⟩ : ∃ t, t = tchk ks := ⟨_, rfl⟩
  have HT := Lib.hid ht
  go_enter Try.func44, Try.ntmps44
  go_upto_region 1 with (fail)
  obtain ⟨W0, hW0⟩ : ∃ W0, W0 = w.alloc (.cells #[.slice sa ks.length cap] 24) := ⟨_, rfl⟩
  have hE : Ext w W0 := by rw [hW0]; exact (by repeat (first | exact Below.refl _ _ | refine Ext.al ?_ _ | refine Ext.dr ?_ | refine Ext.drN ?_ _ | refine Ext.gr ?_ _ | refine Ext.set ?_ (by simp) _ | (refine Ext.trans' ?_ (by assumption))))
  have k0 : W0.cell? ⟨w.heap.size, 0, none⟩ = some (.slice sa ks.length cap) := by rw [hW0]; simp [go_sem]
  have hz : w.heap.size < W0.heap.size := World.block_lt_of_cell? _ _ k0
  have HS := Lib.hid (HV.out.ext hE)
  have HW := Lib.hid hE
  rw [← hW0]
  clear hW0 HV
  clear hE
  go_wp2_with fail
  refine (checkHall_any ks _ W0 HS.out).mono ?_
  rintro e W1 ⟨rfl, hE1⟩
  rw [← ht]
  clear ht
  have k1 := cell_ext hE1 k0
  have HE1 := Lib.hid hE1
  have HS1 := Lib.hid (HS.out.ext hE1)
  clear hE1
  by_cases hc : t = 0
  · have e1 : (t == 0) = true := by simpa using hc
    have e2 : (t != 0) = false := by simpa using hc
    have V := Lib.hid (tval_of (HT.out.symm.trans hc))
    have HC := Lib.hid hc
    clear hc
    go_wp2_with fail
    refine (newTable_any ks _ W1 V.out HS1.out).mono ?_
    rintro e W2 ⟨p, rfl, hE2, hT2⟩
    obtain ⟨r, c4, es, c, hm, ho, hb, hg⟩ := hT2.mp
    have hlen := map_count V.out ho hg
    have hz := World.block_lt_of_cell? _ _ c4
    simp only at hz
    have hml : ∀ ty, (Builtin.len_ #[94] ty #[.map (some r)]).run Try.prog W2 = .ok (.int .i64 es.length) W2 := fun ty => by
      unfold IsMap at hm
      simp [Builtin.len_, getObj, Sem.run, hm, goInt]
    clear hm
    have HE2 := Lib.hid hE2
    have HLEN := Lib.hid hlen
    clear hE2 hT2 ho hb hg hlen
    go_wp2_with fail
    refine bodyPost_ret (v := .tuple #[.int .i64 es.length, .int .i64 0]) (by simp [results, Try.results44, go_sem]) rfl ⟨?_, HW.out.trans' (HE1.out.trans' HE2.out)⟩
    unfold countErr; rw [if_neg (by rw [← HT.out]; exact fun h => h HC.out), HLEN.out]
  · have e1 : (t == 0) = false := by simpa using hc
    have e2 : (t != 0) = true := by simpa using hc
    have HC := Lib.hid hc
    clear hc
    go_wp2_with fail
    refine bodyPost_ret (v := .tuple #[.int .i64 0, .int .i64 t]) (by simp [results, Try.results44, go_sem]) rfl ⟨?_, HW.out.trans' HE1.out⟩
    unfold countErr; rw [if_pos (by rw [← HT.out]; exact HC.out), HT.out]
theorem safe_F {ks s : List Int} (v : TVal ks) (h : isSt ks s = true) : (FofR ks (rkN ks) (numS ks s)).isSome = decide (rowOf (nxS ks) s < 0) := by
  have hb := numS_bd v.nn h
  unfold FofR rkN
  rw [st_num v.nn h]
  by_cases hr : rowOf (nxS ks) s < 0
  · rw [if_pos ⟨hb.1, hb.2, hr⟩, decide_eq_true hr]; rfl
  · rw [if_neg (fun h => hr h.2.2), decide_eq_false hr]; rfl
theorem leadsF_eq {ks s : List Int} (v : TVal ks) (h : isSt ks s = true) (pl : Nat → Bool) : leadsF ks (FofR ks (rkN ks)) pl s = leadsL ks pl s := by
  unfold leadsF leadsL
  cases hf : fullP pl ks s with
  | true => rfl
  | false =>
    rw [if_neg (by simp), if_neg (by simp)]
    congr 1
    refine List.filter_congr fun w hw => ?_
    exact safe_F v (visit_st (up_st h hf) (fun i hi => by have := v.at_ i hi; omega) w)
/-- a list of numbers and an error -/
def RetL (L : List Int) (er : Int) (w : World) (e : Ending) (w' : World) : Prop := ∃ v, e = .returned (.tuple #[v, .int .i64 er]) ∧ Ext w w' ∧ IsInts w' .i64 v L
noncomputable def nextErr (ks s : List Int) : Int := if stErr ks s ≠ 0 then stErr ks s else if leadsL ks allW s = [] then 17 else 0
noncomputable def nextL (ks s : List Int) : List Int := if stErr ks s ≠ 0 then [] else leadsL ks allW s
set_option maxRecDepth 100000 in
set_option maxHeartbeats 1000000 in
theorem next_any (ks s : List Int) (kv lv : Value) (w : World) (hv : IsInts w .i64 kv ks) (hl : IsInts w .i64 lv s) :
    Calls Try.prog 38 #[.agg #[kv], lv] w (RetL (nextL ks s) (nextErr ks s) w) := by
  obtain ⟨sa, cap, rfl, h1, h2, -⟩ := hv.spec
  have HV := Lib.hid hv
  have HL0 := Lib.hid hl
  clear hv hl
  go_enter Try.func38, Try.ntmps38
  go_upto_region 1 with (fail)
  obtain ⟨W0, hW0⟩ : ∃ W0, W0 = w.alloc (.cells #[.slice sa ks.length cap] 24) := ⟨_, rfl⟩
  have hE : Ext w W0 := by rw [hW0]; exact (by repeat (first | exact Below.refl _ _ | refine Ext.al ?_ _ | refine Ext.dr ?_ | refine Ext.drN ?_ _ | refine Ext.gr ?_ _ | refine Ext.set ?_ (by simp) _ | (refine Ext.trans' ?_ (by assumption))))
  have k0 : W0.cell? ⟨w.heap.size, 0, none⟩ = some (.slice sa ks.length cap) := by rw [hW0]; simp [go_sem]
  have hz : w.heap.size < W0.heap.size := World.block_lt_of_cell? _ _ k0
  have HS := Lib.hid (HV.out.ext hE)
  have HW := Lib.hid hE
  rw [← hW0]
  clear hW0 HV
  have HL := Lib.hid (HL0.out.ext hE)
  clear hE HL0
  go_wp2_with fail
  refine (open_any ks s _ _ W0 HS.out HL.out).mono ?_
  rintro e W1 (⟨hne, rfl, hE1⟩ | ⟨h0, p, rfl, hE1, hT1⟩)
  · obtain ⟨er, her⟩ : ∃ er, er = stErr ks s := ⟨_, rfl⟩
    rw [← her] at hne ⊢
    have e1 : (er == 0) = false := by simpa using hne
    have e2 : (er != 0) = true := by simpa using hne
    have HN := Lib.hid hne
    have HER := Lib.hid her
    have HE1 := Lib.hid hE1
    rw [stV_eq]
    clear hne her hE1
    go_wp2_with fail
    refine bodyPost_ret (v := .tuple #[.slice none 0 0, .int .i64 er]) (by simp [results, Try.results38, go_sem]) rfl ?_
    have hE2 : Ext w W1 := HW.out.trans' HE1.out
    refine ⟨_, by unfold nextErr; rw [if_pos (by rw [← HER.out]; exact HN.out), HER.out], hE2.trans' (by exact (by repeat (first | exact Below.refl _ _ | refine Ext.al ?_ _ | refine Ext.dr ?_ | refine Ext.drN ?_ _ | refine Ext.gr ?_ _ | refine Ext.set ?_ (by simp) _ | (refine Ext.trans' ?_ (by assumption))))), ?_⟩
    unfold nextL; rw [if_pos (by rw [← HER.out]; exact HN.out)]; exact IsInts.nil _ _
  · obtain ⟨v, hst⟩ := stErr_ok h0
    have V := Lib.hid v
    have HST := Lib.hid hst
    have H0 := Lib.hid h0
    have HT1 := Lib.hid hT1
    have HE1 := Lib.hid hE1
    rw [stV_eq]
    clear v hst h0 hT1 hE1
    go_wp2_with fail
    refine (leads_any ks s p (FofR ks (rkN ks)) _ allW _ V.out HST.out (HT1.out.hd.ext (by exact (by repeat (first | exact Below.refl _ _ | refine Ext.al ?_ _ | refine Ext.dr ?_ | refine Ext.drN ?_ _ | refine Ext.gr ?_ _ | refine Ext.set ?_ (by simp) _ | (refine Ext.trans' ?_ (by assumption)))))) (HT1.out.mp.ext (by exact (by repeat (first | exact Below.refl _ _ | refine Ext.al ?_ _ | refine Ext.dr ?_ | refine Ext.drN ?_ _ | refine Ext.gr ?_ _ | refine Ext.set ?_ (by simp) _ | (refine Ext.trans' ?_ (by assumption)))))) (all_pulls _)).mono ?_
    rintro e W2 ⟨r, rfl, hE2, hr⟩
    rw [leadsF_eq V.out HST.out] at hr
    have hE3 : Ext w W2 := HW.out.trans' (HE1.out.trans' (Ext.trans' (by exact (by repeat (first | exact Below.refl _ _ | refine Ext.al ?_ _ | refine Ext.dr ?_ | refine Ext.drN ?_ _ | refine Ext.gr ?_ _ | refine Ext.set ?_ (by simp) _ | (refine Ext.trans' ?_ (by assumption))))) hE2))
    obtain ⟨ra, rc, rfl, hr1, hr2, -⟩ := hr.spec
    have HE3 := Lib.hid hE3
    have HR := Lib.hid hr
    have hnl : nextL ks s = leadsL ks allW s := by unfold nextL; rw [if_neg (fun h => h H0.out)]
    have hne : nextErr ks s = if leadsL ks allW s = [] then 17 else 0 := by unfold nextErr; rw [if_neg (fun h => h H0.out)]
    obtain ⟨L, hL⟩ : ∃ L, L = leadsL ks allW s := ⟨_, rfl⟩
    rw [← hL] at hr1 HR hnl hne ⊢
    obtain ⟨n, hn⟩ : ∃ n, n = L.length := ⟨_, rfl⟩
    rw [← hn] at hr1 HR ⊢
    have HNL := Lib.hid hnl
    have HNE := Lib.hid hne
    have HNN := Lib.hid hn
    clear hE2 hE3 hr hnl hne hL hn
    by_cases h0 : n = 0
    · have e1 : ((n : Int) == 0) = true := by simp; omega
      have HLN : Hid (L = []) := Lib.hid (List.eq_nil_of_length_eq_zero (by rw [← HNN.out]; exact h0))
      clear h0
      go_wp2_with fail
      refine bodyPost_ret (v := .tuple #[.slice none 0 0, .int .i64 17]) (by simp [results, Try.results38, go_sem]) rfl ?_
      exact ⟨_, by rw [HNE.out, if_pos HLN.out], HE3.out, by rw [HNL.out, HLN.out]; exact IsInts.nil _ _⟩
    · have e1 : ((n : Int) == 0) = false := by simp; omega
      have HLN : Hid (¬ L = []) := Lib.hid fun h => by have := HNN.out; rw [h] at this; exact h0 this
      clear h0
      go_wp2_with fail
      refine bodyPost_ret (v := .tuple #[.slice ra n rc, .int .i64 0]) (by simp [results, Try.results38, go_sem]) rfl ?_
      exact ⟨_, by rw [HNE.out, if_neg HLN.out], HE3.out, by rw [HNL.out]; exact HR.out⟩
end Go.Proofs.Ytndgaklcnhoddaa
namespace Go.Proofs.Ytndgaklcnhoddaa
open Go.RowKit Go.Shelf
/-- what from has found: o is done, q waits -/
structure FromI (ks : List Int) (s0 : Int) (o q : List Int) (seen : Nat → Int) : Prop where
  bd : ∀ x ∈ o ++ q, 0 ≤ x ∧ x < prodK ks
  nd : (o ++ q).Nodup
  sn : ∀ i : Nat, i < nSt ks → seen i = if (i : Int) ∈ o ++ q then 1 else 0
  st : s0 ∈ o ++ q
  un : ¬ SafeP (nxS ks) (stOf ks s0) → ∀ x ∈ o ++ q, ¬ SafeP (nxS ks) (stOf ks x)
theorem FromI.start {ks : List Int} {s0 : Int} {seen : Nat → Int} (h0 : 0 ≤ s0) (h1 : s0 < prodK ks) (hs : ∀ i : Nat, i < nSt ks → seen i = if (i : Int) = s0 then 1 else 0) : FromI ks s0 [] [s0] seen :=
  ⟨fun x hx => by simp at hx; subst hx; exact ⟨h0, h1⟩, by simp, fun i hi => by rw [hs i hi]; simp, by simp, fun h x hx => by simp at hx; subst hx; exact h⟩
theorem FromI.move {ks : List Int} {s0 i : Int} {o q : List Int} {seen : Nat → Int} (h : FromI ks s0 o (i :: q) seen) : FromI ks s0 (o ++ [i]) q seen := by
  have e : (o ++ [i]) ++ q = o ++ i :: q := by simp
  exact ⟨by rw [e]; exact h.bd, by rw [e]; exact h.nd, by rw [e]; exact h.sn, by rw [e]; exact h.st, by rw [e]; exact h.un⟩
theorem FromI.add {ks : List Int} (v : TVal ks) {s0 i y : Int} {o q : List Int} {seen : Nat → Int} (h : FromI ks s0 o q seen) (hi : i ∈ o ++ q) (hy : y ∈ nxN ks i) (hn : y ∉ o ++ q) : FromI ks s0 o (q ++ [y]) (fun j => if (j : Int) = y then 1 else seen j) := by
  have e : o ++ (q ++ [y]) = (o ++ q) ++ [y] := by simp
  refine ⟨fun x hx => ?_, ?_, fun j hj => ?_, by rw [e]; exact List.mem_append_left _ h.st, fun hu x hx => ?_⟩
  · rw [e] at hx
    rcases List.mem_append.1 hx with hx | hx
    · exact h.bd x hx
    · simp at hx; subst hx; exact nxN_bd v hy
  · rw [e, List.nodup_append]
    exact ⟨h.nd, by simp, fun a ha b hb hab => by simp at hb; subst hb; subst hab; exact hn ha⟩
  · rw [e]
    by_cases hj2 : (j : Int) = y
    · rw [if_pos hj2, if_pos (by simp [hj2])]
    · rw [if_neg hj2, h.sn j hj]
      by_cases hm : (j : Int) ∈ o ++ q
      · rw [if_pos hm, if_pos (List.mem_append_left _ hm)]
      · rw [if_neg hm, if_neg (fun hh => by
          rcases List.mem_append.1 hh with hh | hh
          · exact hm hh
          · exact hj2 (by simpa using hh))]
  · rw [e] at hx
    rcases List.mem_append.1 hx with hx | hx
    · exact h.un hu x hx
    · simp at hx; subst hx
      intro hs
      have hbi := h.bd i hi
      unfold nxN at hy
      obtain ⟨t, ht, rfl⟩ := List.mem_map.1 hy
      rw [st_num v.nn (nxS_st v (st_st v.nn) t ht)] at hs
      exact h.un hu i hi (safe_back ht hs)
theorem FromI.len {ks : List Int} (v : TVal ks) {s0 : Int} {o q : List Int} {seen : Nat → Int} (h : FromI ks s0 o q seen) : o.length + q.length ≤ nSt ks := by
  have h1 : ((o ++ q).map Int.toNat).Nodup := nodup_map _ h.nd fun x hx y hy e => by
    have := h.bd x hx
    have := h.bd y hy
    omega
  have h2 := nodup_le (nSt ks) _ h1 fun x hx => by
    obtain ⟨y, hy, rfl⟩ := List.mem_map.1 hx
    have := h.bd y hy
    have := nSt_eq v
    omega
  simpa using h2
/-- closed so far -/
def ClosedTo (ks : List Int) (o all : List Int) : Prop := ∀ x ∈ o, ∀ y ∈ nxN ks x, y ∈ all
def stR (ks : List Int) (x : Int) : List Value := [.int .i64 (gt (stOf ks x) 0), .int .i64 (gt (stOf ks x) 1), .int .i64 (gt (stOf ks x) 2), .int .i64 (gt (stOf ks x) 3), .int .i64 (gt (stOf ks x) 4)]
set_option maxRecDepth 100000 in
set_option maxHeartbeats 4000000 in
theorem from_any (ks s : List Int) (p : Nat) (w : World) (v : TVal ks) (hst : isSt ks s = true) (ht : Tab w p ks) :
    Calls Try.prog 81 #[.pointer (some ⟨p, 0, none⟩), stV s] w fun e W => ∃ r o seen, e = .returned r ∧ Ext w W ∧ Owns W w.heap.size 73 5 r (o.map (stR ks)) ∧ FromI ks (numS ks s) o [] seen ∧ ClosedTo ks o o := by
  have hN := nSt_le v
  have hNe := nSt_eq v
  have hnb := numS_bd v.nn hst
  have n5 := v.n5
  obtain ⟨sb, so, sc, c1, s1, s2, hsS⟩ := ht.st
  obtain ⟨nb, no, nc, c2, n1, n2, hsN⟩ := ht.nx
  have cn := fun W ht => num_any ks s p W v hst ht
  rw [stV_eq] at cn
  obtain ⟨s0, hs0⟩ : ∃ s0 : Nat, numS ks s = (s0 : Int) := ⟨(numS ks s).toNat, by omega⟩
  rw [hs0] at cn hnb ⊢
  have CN := Lib.hid cn
  have HSS := Lib.hid hsS
  have HSN := Lib.hid hsN
  have HHD := Lib.hid ht.hd
  have V := Lib.hid v
  have NE := Lib.hid hNe
  obtain ⟨N, hNN⟩ : ∃ N, N = nSt ks := ⟨_, rfl⟩
  rw [← hNN] at HSS HSN NE c1 c2 s1 n1 hN
  have HNN := Lib.hid hNN
  have hz := World.block_lt_of_cell? _ _ c1
  simp only at hz
  have hs0N : s0 < N := by omega
  have hs0i : (s0 : Int) < (N : Int) := by omega
  rw [stV_eq]
  clear cn hsS hsN ht v hNe hNN hst hs0 hnb
  go_enter Try.func81, Try.ntmps81
  obtain ⟨W1, hmk, hnum, hE1⟩ := make_ints (w.alloc (.cells #[.int .i64 (gt s 0), .int .i64 (gt s 1), .int .i64 (gt s 2), .int .i64 (gt s 3), .int .i64 (gt s 4)] 73)) N (by omega)
  have hbs : StB (w.alloc (.cells #[.int .i64 (gt s 0), .int .i64 (gt s 1), .int .i64 (gt s 2), .int .i64 (gt s 3), .int .i64 (gt s 4)] 73)) w.heap.size s := StB.new w s
  have hb1 := hbs.ext hE1
  simp only [World.size_alloc] at hmk hnum
  have hEw : Ext w W1 := Ext.trans' (by exact (by repeat (first | exact Below.refl _ _ | refine Ext.al ?_ _ | refine Ext.dr ?_ | refine Ext.drN ?_ _ | refine Ext.gr ?_ _ | refine Ext.set ?_ (by simp) _ | (refine Ext.trans' ?_ (by assumption))))) hE1
  have HNUM := Lib.hid hnum
  have HE1 := Lib.hid hEw
  have c0b := (hb1).c 0 (by omega)
  have c1b := (hb1).c 1 (by omega)
  have c2b := (hb1).c 2 (by omega)
  have c3b := (hb1).c 3 (by omega)
  have c4b := (hb1).c 4 (by omega)
  have cfb := (hb1).free
  have czb := (hb1).lt
  have hzn := hnum.lt
  clear hnum hbs hb1 hE1 hEw
  go_wp2_with fail
  refine (CN.out _ (HHD.out.ext HE1.out)).mono ?_
  rintro e W2 ⟨rfl, hE2⟩
  have hnum2 := HNUM.out.of_heap (hE2.block _ hzn)
  have HE2 := Lib.hid (HE1.out.trans' hE2)
  have f0 := hnum2.free s0
  have g0 := hnum2.cell s0 hs0N
  have hzn2 := hnum2.lt
  have HNUM2 := Lib.hid hnum2
  clear hmk hE2 hnum2 c0b c1b c2b c3b c4b cfb czb CN HNUM hzn
  go_wp2_with fail
  have hsz2 : (W2.setCell ⟨w.heap.size + 1, s0, none⟩ (.int .i64 1)).heap.size = W2.heap.size := by simp [World.setCell]
  obtain ⟨W3, hW3⟩ : ∃ W3, (W2.setCell ⟨w.heap.size + 1, s0, none⟩ (.int .i64 1)).alloc (.cells #[.int .i64 s0] 3) = W3 := ⟨_, rfl⟩
  have hE3 : Ext w W3 := by
    rw [← hW3]
    exact Ext.al (HE2.out.setCell (by simp only; omega) _) _
  have hnum3 : NumB W3 (w.heap.size + 1) N (fun j => if j = s0 then 1 else 0) := by
    rw [← hW3]
    exact (HNUM2.out.set s0 1).of_heap (Below.heap_alloc _ _ _ (by rw [hsz2]; exact hzn2))
  have hq3 : Que W3 (w.heap.size + 2) (.slice (some ⟨W2.heap.size, 0, none⟩) 1 1) [(s0 : Int)] := by
    refine ⟨W2.heap.size, 0, 1, #[.int .i64 s0], rfl, by simp, by omega, by omega, ?_, .inr ⟨rfl, fun j hj => ?_⟩⟩
    · rw [← hW3]
      have := World.alloc_heap_new (W2.setCell ⟨w.heap.size + 1, s0, none⟩ (.int .i64 1)) (.cells #[.int .i64 s0] 3)
      rwa [hsz2] at this
    · have : j = 0 := by simpa using hj
      subst this; rfl
  have hf3 : FromI ks s0 [] [(s0 : Int)] (fun j => if j = s0 then 1 else 0) := FromI.start (by omega) (by have := NE.out; omega) fun i hi => by
    by_cases h : i = s0
    · rw [if_pos h, if_pos (by omega)]
    · rw [if_neg h, if_neg (by omega)]
  rw [hW3]
  have HE3 := Lib.hid hE3
  have HNUM3 := Lib.hid hnum3
  have HQ3 := Lib.hid hq3
  have HF3 := Lib.hid hf3
  clear hW3 hE3 hnum3 hq3 hf3 HNUM2 f0 g0 hsz2
  go_loopw [6, 7] (fun wv ov W => ∃ (o q : List Int) (seen : Nat → Int), FromI ks s0 o q seen ∧ ClosedTo ks o (o ++ q) ∧ Que W (w.heap.size + 2) wv q ∧ Owns W w.heap.size 73 5 ov (o.map (stR ks)) ∧ NumB W (w.heap.size + 1) N seen ∧ Ext w W) (fun _ ov _ => N - slLen ov)
  case atStart => exact ⟨[], _, _, HF3.out, fun x hx => (by cases hx), HQ3.out, Owns.nil _ _ _ _, HNUM3.out, HE3.out⟩
  case round =>
    obtain ⟨o, q, seen, hf, hcl, hq, hown, hnum, hE⟩ := hrel
    obtain ⟨oa, on, oc, rfl⟩ := hown.isSlice
    have hon : on = o.length := by
      obtain ⟨_, _, e, _⟩ := hown.form
      simp only [Value.slice.injEq, List.length_map] at e
      exact e.2.1
    have hlen := hf.len V.out
    rw [← HNN.out] at hlen
    have HON := Lib.hid hon
    have HCL := Lib.hid hcl
    have HE := Lib.hid hE
    have HOWN := Lib.hid hown
    have HNUMr := Lib.hid hnum
    have hzr := hE.size
    clear HE3 HNUM3 HQ3 HF3
    rcases q with _ | ⟨i, q⟩
    · obtain ⟨qg, qo, qc, qcur, rfl, _, _, _, _, _⟩ := hq
      have HF := Lib.hid hf
      clear hf hcl hE hown hnum
      go_wp2_with fail
      go_ret
      exact ⟨_, o, seen, rfl, HE.out, HOWN.out, HF.out, by have := HCL.out; simpa using this⟩
    · have hib := hf.bd i (by simp)
      obtain ⟨ii, rfl⟩ : ∃ ii : Nat, i = (ii : Int) := ⟨i.toNat, by omega⟩
      obtain ⟨g, off, cap, rfl, hq1, hq2, hqc, hqn⟩ := hq.spec
      have hzg := World.block_lt_of_cell? _ _ hqc
      simp only at hzg
      have hiN : ii < N := by have := NE.out; omega
      have hii : (ii : Int) < (N : Int) := by omega
      have c1' := cell_ext hE c1
      have c2' := cell_ext hE c2
      have hs' := HSS.out ii hiN
      obtain ⟨t, ht⟩ : ∃ t, t = stOf ks (ii : Int) := ⟨_, rfl⟩
      rw [← ht] at hs'
      have y0 := cell_ext hE (hs' 0 (by omega))
      have y1 := cell_ext hE (hs' 1 (by omega))
      have y2 := cell_ext hE (hs' 2 (by omega))
      have y3 := cell_ext hE (hs' 3 (by omega))
      have y4 := cell_ext hE (hs' 4 (by omega))
      rw [Nat.add_zero] at y0
      have hmv := hf.move
      have HMV := Lib.hid hmv
      have HQN := Lib.hid hqn
      have HTT := Lib.hid ht
      obtain ⟨n, hn⟩ : ∃ n, n = q.length := ⟨_, rfl⟩
      rw [← hn] at hq1 HQN ⊢
      have hqli : ((n + 1 : Nat) : Int) > 0 := by omega
      clear hn
      have hL5 : (o.map (stR ks)).length + [[Value.int .i64 (gt t 0), .int .i64 (gt t 1), .int .i64 (gt t 2), .int .i64 (gt t 3), .int .i64 (gt t 4)]].length ≤ 1000000 := by
        rw [List.length_map]; show _ + 1 ≤ _; omega
      have HL5 := Lib.hid hL5
      clear hf hcl hE hown hnum hqn hs' ht hmv hq hL5 hon
      by_cases hc1 : cap = 1
      · subst hc1
        clear hq1
        have hqt : Que wr (w.heap.size + 2) (.slice (some ⟨g, off, none⟩) n 0) q := HQN.out _ (.inr ⟨by omega, rfl⟩)
        have HQT := Lib.hid hqt
        clear hqt
        go_wp2_with (at_builtin; refine wpApp rfl (.tmp 34) (.tmp 42) elSt rfl w.heap.size rfl (HOWN.out.ext (by exact (by repeat (first | exact Below.refl _ _ | refine Ext.al ?_ _ | refine Ext.dr ?_ | refine Ext.drN ?_ _ | refine Ext.gr ?_ _ | refine Ext.set ?_ (by simp) _ | (refine Ext.trans' ?_ (by assumption)))))) (some ⟨wr.heap.size, 0, none⟩) 1 [[Value.int .i64 (gt t 0), .int .i64 (gt t 1), .int .i64 (gt t 2), .int .i64 (gt t 3), .int .i64 (gt t 4)]] rfl (by simp) (.inr ⟨_, _, rfl, newRowAt _ _ _ _ _ rfl rfl⟩) (by simp [Value.oneCell']) HL5.out (by simp; omega) ?_)
        intro v' W5 hown5 hk5
        obtain ⟨va, vn, vc, rfl⟩ := hown5.isSlice
        have hkk : Kept (fun k => some k ≠ (Value.slice oa on oc).ownBlock) wr W5 := ((Kept.refl _ wr).alloc _).trans hk5
        have hnum5 : NumB W5 (w.heap.size + 1) N seen := by
          obtain ⟨cur, h1, h2⟩ := HNUMr.out
          exact HNUMr.out.of_heap (hkk.same _ HNUMr.out.lt (HOWN.out.neBlock h1 (by decide)))
        have hq5 : Que W5 (w.heap.size + 2) (.slice (some ⟨g, off, none⟩) n 0) q := HQT.out.kept hkk fun g cur _ _ hc => HOWN.out.neBlock hc (by decide)
        have hE5 : Ext w W5 := HE.out.trans (Kept.below (Kept.low HOWN.out hkk (fun j h => h)) HE.out.size)
        have hvn : vn = on + 1 := by
          obtain ⟨_, _, e, _⟩ := hown5.form
          simp only [Value.slice.injEq, List.length_append, List.length_map] at e
          rw [e.2.1, HON.out]; rfl
        have hrows : o.map (stR ks) ++ [[Value.int .i64 (gt t 0), .int .i64 (gt t 1), .int .i64 (gt t 2), .int .i64 (gt t 3), .int .i64 (gt t 4)]] = (o ++ [(ii : Int)]).map (stR ks) := by
          rw [List.map_append, HTT.out]; rfl
        rw [hrows] at hown5
        obtain ⟨ea, ec, hce, hle⟩ := HSN.out ii hiN
        have hlb := fun x hx => nxN_bd V.out (i := (ii : Int)) (x := x) hx
        have hl5 := nxN_len (ks := ks) (ii : Int)
        obtain ⟨l, hl⟩ : ∃ l, l = nxN ks (ii : Int) := ⟨_, rfl⟩
        rw [← hl] at hce hle hlb hl5
        have c25 := cell_ext hE5 c2
        have e5 := cell_ext hE5 hce
        have HL := Lib.hid hl
        have HLB := Lib.hid hlb
        have HLE := Lib.hid hle
        have HOWN5 := Lib.hid hown5
        have HNUM5 := Lib.hid hnum5
        have HQ5 := Lib.hid hq5
        have HE5 := Lib.hid hE5
        have HVN := Lib.hid hvn
        clear hown5 hk5 hkk hnum5 hq5 hE5 hvn hrows hce hle hlb hl y0 y1 y2 y3 y4 c1' c2' hqc
        go_wp2_with fail
        go_loopw [6, 52] (fun wv jv W => ∃ (k : Nat) (q' : List Int) (seen' : Nat → Int), k ≤ l.length ∧ jv = .int .i64 k ∧ FromI ks s0 (o ++ [(ii : Int)]) q' seen' ∧ (∀ x ∈ o, ∀ y ∈ nxN ks x, y ∈ (o ++ [(ii : Int)]) ++ q') ∧ (∀ y ∈ l.take k, y ∈ (o ++ [(ii : Int)]) ++ q') ∧ Que W (w.heap.size + 2) wv q' ∧ Owns W w.heap.size 73 5 (.slice va vn vc) ((o ++ [(ii : Int)]).map (stR ks)) ∧ NumB W (w.heap.size + 1) N seen' ∧ Ext w W) (fun _ jv _ => l.length - (intOf jv).toNat)
        case atStart =>
          refine ⟨0, q, seen, by omega, rfl, HMV.out, fun x hx y hy => ?_, fun y hy => (by simp at hy), HQ5.out, HOWN5.out, HNUM5.out, HE5.out⟩
          have := HCL.out x hx y hy
          simpa using this
        case round =>
          obtain ⟨k, q', seen', hk, rfl, hf', hcl', htk, hq', hown', hnum', hE'⟩ := hrel
          obtain ⟨ua, un, uc, rfl⟩ := hq'.form
          have HF' := Lib.hid hf'
          have HCL' := Lib.hid hcl'
          have HTK := Lib.hid htk
          have HOWN' := Lib.hid hown'
          have HNUM' := Lib.hid hnum'
          have HQ' := Lib.hid hq'
          have HE' := Lib.hid hE'
          by_cases hlt : k < l.length
          · rcases (HLE.out.ext hE').spec with ⟨ea', ec', e, -, -, hcc⟩
            cases e
            rcases hcc with hcc | ⟨eb, eo, rfl, hcc⟩
            · rw [hcc] at hlt; simp at hlt
            have d0 := hcc k hlt
            have hmem : l[k] ∈ nxN ks (ii : Int) := by rw [← HL.out]; exact List.getElem_mem hlt
            have hyb := HLB.out l[k] (List.getElem_mem hlt)
            have htk1 : l.take (k + 1) = l.take k ++ [l[k]] := List.take_succ_eq_append_getElem hlt
            obtain ⟨Y, hY⟩ : ∃ Y : Nat, l[k] = (Y : Int) := ⟨l[k].toNat, by omega⟩
            rw [hY] at d0 hmem hyb htk1
            have hYN : Y < N := by have := NE.out; omega
            have hYi : (Y : Int) < (N : Int) := by omega
            have hki : (k : Int) < (l.length : Int) := by omega
            have g0 := hnum'.cell Y hYN
            have gf := hnum'.free Y
            have hzn' := hnum'.lt
            have hzd := World.block_lt_of_cell? _ _ d0
            simp only at hzd
            have hsn := hf'.sn Y (by rw [← HNN.out]; exact hYN)
            have hlen' := hf'.len V.out
            have HMEM := Lib.hid hmem
            have HTK1 := Lib.hid htk1
            have HLEN' : Hid (q'.length + 1 ≤ 1000000) := Lib.hid (by have := HNN.out; omega)
            clear hf' hcl' htk hown' hnum' hq' hE' hcc hY hyb hmem htk1 hlen'
            by_cases hin : (Y : Int) ∈ (o ++ [(ii : Int)]) ++ q'
            · rw [if_pos hin] at hsn
              rw [hsn] at g0
              have HIN := Lib.hid hin
              clear hsn hin
              go_wp2_with fail
              go_roundw
              case rel =>
                refine ⟨k + 1, q', seen', by omega, by go_num, HF'.out, HCL'.out, fun y hy => ?_, HQ'.out, HOWN'.out, HNUM'.out, HE'.out⟩
                rw [HTK1.out] at hy
                rcases List.mem_append.1 hy with hy | hy
                · exact HTK.out y hy
                · simp at hy; subst hy; exact HIN.out
              case measure => simp [intOf]; omega
            · rw [if_neg hin] at hsn
              rw [hsn] at g0
              have HIN := Lib.hid hin
              clear hsn hin
              have hq2' : Que (wr.setCell ⟨w.heap.size + 1, Y, none⟩ (.int .i64 1)) (w.heap.size + 2) (.slice (some ua) un uc) q' := HQ'.out.kept (S := fun k => k ≠ w.heap.size + 1) ((Kept.refl _ wr).setCell (fun _ h => h rfl) _) (fun g cur hg _ _ => by omega)
              have HQ2' := Lib.hid hq2'
              have hE2' : Ext w (wr.setCell ⟨w.heap.size + 1, Y, none⟩ (.int .i64 1)) := HE'.out.setCell (by simp only; omega) _
              have HE2' := Lib.hid hE2'
              have hsz' := HE'.out.size
              clear hq2' hE2'
              go_wp2_with (at_builtin; refine wpQue rfl (.tmp 64) (.tmp 66) rfl (w.heap.size + 2) rfl (HQ2'.out.ext (by exact (by repeat (first | exact Below.refl _ _ | refine Ext.al ?_ _ | refine Ext.dr ?_ | refine Ext.drN ?_ _ | refine Ext.gr ?_ _ | refine Ext.set ?_ (by simp) _ | (refine Ext.trans' ?_ (by assumption)))))) (Y : Int) wr.heap.size 1 rfl (by simp [go_sem]) HLEN'.out (by simp [World.setCell]; omega) ?_)
              intro v6 W6 hq6 hk6
              obtain ⟨qa, qn, qc, rfl⟩ := hq6.form
              have hown2' : Owns (wr.setCell ⟨w.heap.size + 1, Y, none⟩ (.int .i64 1)) w.heap.size 73 5 (.slice va vn vc) ((o ++ [(ii : Int)]).map (stR ks)) := by
                obtain ⟨cur, h1, _⟩ := HNUM'.out
                exact HOWN'.out.setOther h1 (by decide) Y _
              have hk7 : Kept (fun k => some k ≠ (Value.slice (some ua) un uc).ownBlock) (wr.setCell ⟨w.heap.size + 1, Y, none⟩ (.int .i64 1)) W6 := ((Kept.refl _ _).alloc _).trans hk6
              have hown6 := hown2'.keptAt hk7 fun g cur hb hg hc e => by
                obtain ⟨_, cur2, h2⟩ := HQ2'.out.own g e.symm
                rw [h2] at hc; cases hc
              have hnum6 := (HNUM'.out.set Y 1).of_heap (hk7.same _ (by simpa [World.setCell] using hzn') fun e => by have := (HQ2'.out.own _ e.symm).1; omega)
              have hE6 : Ext w W6 := HE2'.out.trans (Kept.below (hk7.mono fun j _ hj e => by have := (HQ2'.out.own j e.symm).1; omega) (by have := HE2'.out.size; exact this))
              have hadd := HF'.out.add V.out (i := (ii : Int)) (by simp) HMEM.out HIN.out
              have HADD := Lib.hid hadd
              have HQ6 := Lib.hid hq6
              have HOWN6 := Lib.hid hown6
              have HNUM6 := Lib.hid hnum6
              have HE6 := Lib.hid hE6
              clear hq6 hk6 hown2' hk7 hown6 hnum6 hE6 hadd
              go_wp2_with fail
              go_roundw
              case rel =>
                refine ⟨k + 1, q' ++ [(Y : Int)], _, by omega, by go_num, HADD.out, fun x hx y hy => ?_, fun y hy => ?_, HQ6.out, HOWN6.out, HNUM6.out.congr fun j _ => ?_, HE6.out⟩
                · have := HCL'.out x hx y hy
                  rw [← List.append_assoc]; exact List.mem_append_left _ this
                · rw [← List.append_assoc]
                  rw [HTK1.out] at hy
                  rcases List.mem_append.1 hy with hy | hy
                  · exact List.mem_append_left _ (HTK.out y hy)
                  · exact List.mem_append_right _ hy
                · by_cases e : j = Y
                  · rw [if_pos e, if_pos (by omega)]
                  · rw [if_neg e, if_neg (by omega)]
              case measure => simp [intOf]; omega
          · have hkl : k = l.length := by omega
            have HKL := Lib.hid hkl
            have hlen' := hf'.len V.out
            clear hf' hcl' htk hown' hnum' hq' hE' hkl
            go_wp2_with fail
            go_roundw
            case rel =>
              refine ⟨o ++ [(ii : Int)], q', seen', HF'.out, fun x hx y hy => ?_, HQ'.out, HOWN'.out, HNUM'.out, HE'.out⟩
              rcases List.mem_append.1 hx with hx | hx
              · exact HCL'.out x hx y hy
              · simp at hx; subst hx
                rw [← HL.out] at hy
                refine HTK.out y ?_
                rw [HKL.out, List.take_length]; exact hy
            case measure =>
              have h1 := HVN.out
              have h2 := HON.out
              have h3 := HNN.out
              simp at hlen'
              simp [slLen]
              omega
      · skip
        have hqt : Que wr (w.heap.size + 2) (.slice (some ⟨g, off + 1, none⟩) n (cap - 1)) q := HQN.out _ (.inl rfl)
        have HQT := Lib.hid hqt
        clear hqt
        go_wp2_with (at_builtin; refine wpApp rfl (.tmp 34) (.tmp 42) elSt rfl w.heap.size rfl (HOWN.out.ext (by exact (by repeat (first | exact Below.refl _ _ | refine Ext.al ?_ _ | refine Ext.dr ?_ | refine Ext.drN ?_ _ | refine Ext.gr ?_ _ | refine Ext.set ?_ (by simp) _ | (refine Ext.trans' ?_ (by assumption)))))) (some ⟨wr.heap.size, 0, none⟩) 1 [[Value.int .i64 (gt t 0), .int .i64 (gt t 1), .int .i64 (gt t 2), .int .i64 (gt t 3), .int .i64 (gt t 4)]] rfl (by simp) (.inr ⟨_, _, rfl, newRowAt _ _ _ _ _ rfl rfl⟩) (by simp [Value.oneCell']) HL5.out (by simp; omega) ?_)
        intro v' W5 hown5 hk5
        obtain ⟨va, vn, vc, rfl⟩ := hown5.isSlice
        have hkk : Kept (fun k => some k ≠ (Value.slice oa on oc).ownBlock) wr W5 := ((Kept.refl _ wr).alloc _).trans hk5
        have hnum5 : NumB W5 (w.heap.size + 1) N seen := by
          obtain ⟨cur, h1, h2⟩ := HNUMr.out
          exact HNUMr.out.of_heap (hkk.same _ HNUMr.out.lt (HOWN.out.neBlock h1 (by decide)))
        have hq5 : Que W5 (w.heap.size + 2) (.slice (some ⟨g, off + 1, none⟩) n (cap - 1)) q := HQT.out.kept hkk fun g cur _ _ hc => HOWN.out.neBlock hc (by decide)
        have hE5 : Ext w W5 := HE.out.trans (Kept.below (Kept.low HOWN.out hkk (fun j h => h)) HE.out.size)
        have hvn : vn = on + 1 := by
          obtain ⟨_, _, e, _⟩ := hown5.form
          simp only [Value.slice.injEq, List.length_append, List.length_map] at e
          rw [e.2.1, HON.out]; rfl
        have hrows : o.map (stR ks) ++ [[Value.int .i64 (gt t 0), .int .i64 (gt t 1), .int .i64 (gt t 2), .int .i64 (gt t 3), .int .i64 (gt t 4)]] = (o ++ [(ii : Int)]).map (stR ks) := by
          rw [List.map_append, HTT.out]; rfl
        rw [hrows] at hown5
        obtain ⟨ea, ec, hce, hle⟩ := HSN.out ii hiN
        have hlb := fun x hx => nxN_bd V.out (i := (ii : Int)) (x := x) hx
        have hl5 := nxN_len (ks := ks) (ii : Int)
        obtain ⟨l, hl⟩ : ∃ l, l = nxN ks (ii : Int) := ⟨_, rfl⟩
        rw [← hl] at hce hle hlb hl5
        have c25 := cell_ext hE5 c2
        have e5 := cell_ext hE5 hce
        have HL := Lib.hid hl
        have HLB := Lib.hid hlb
        have HLE := Lib.hid hle
        have HOWN5 := Lib.hid hown5
        have HNUM5 := Lib.hid hnum5
        have HQ5 := Lib.hid hq5
        have HE5 := Lib.hid hE5
        have HVN := Lib.hid hvn
        clear hown5 hk5 hkk hnum5 hq5 hE5 hvn hrows hce hle hlb hl y0 y1 y2 y3 y4 c1' c2' hqc
        go_wp2_with fail
        go_loopw [6, 52] (fun wv jv W => ∃ (k : Nat) (q' : List Int) (seen' : Nat → Int), k ≤ l.length ∧ jv = .int .i64 k ∧ FromI ks s0 (o ++ [(ii : Int)]) q' seen' ∧ (∀ x ∈ o, ∀ y ∈ nxN ks x, y ∈ (o ++ [(ii : Int)]) ++ q') ∧ (∀ y ∈ l.take k, y ∈ (o ++ [(ii : Int)]) ++ q') ∧ Que W (w.heap.size + 2) wv q' ∧ Owns W w.heap.size 73 5 (.slice va vn vc) ((o ++ [(ii : Int)]).map (stR ks)) ∧ NumB W (w.heap.size + 1) N seen' ∧ Ext w W) (fun _ jv _ => l.length - (intOf jv).toNat)
        case atStart =>
          refine ⟨0, q, seen, by omega, rfl, HMV.out, fun x hx y hy => ?_, fun y hy => (by simp at hy), HQ5.out, HOWN5.out, HNUM5.out, HE5.out⟩
          have := HCL.out x hx y hy
          simpa using this
        case round =>
          obtain ⟨k, q', seen', hk, rfl, hf', hcl', htk, hq', hown', hnum', hE'⟩ := hrel
          obtain ⟨ua, un, uc, rfl⟩ := hq'.form
          have HF' := Lib.hid hf'
          have HCL' := Lib.hid hcl'
          have HTK := Lib.hid htk
          have HOWN' := Lib.hid hown'
          have HNUM' := Lib.hid hnum'
          have HQ' := Lib.hid hq'
          have HE' := Lib.hid hE'
          by_cases hlt : k < l.length
          · rcases (HLE.out.ext hE').spec with ⟨ea', ec', e, -, -, hcc⟩
            cases e
            rcases hcc with hcc | ⟨eb, eo, rfl, hcc⟩
            · rw [hcc] at hlt; simp at hlt
            have d0 := hcc k hlt
            have hmem : l[k] ∈ nxN ks (ii : Int) := by rw [← HL.out]; exact List.getElem_mem hlt
            have hyb := HLB.out l[k] (List.getElem_mem hlt)
            have htk1 : l.take (k + 1) = l.take k ++ [l[k]] := List.take_succ_eq_append_getElem hlt
            obtain ⟨Y, hY⟩ : ∃ Y : Nat, l[k] = (Y : Int) := ⟨l[k].toNat, by omega⟩
            rw [hY] at d0 hmem hyb htk1
            have hYN : Y < N := by have := NE.out; omega
            have hYi : (Y : Int) < (N : Int) := by omega
            have hki : (k : Int) < (l.length : Int) := by omega
            have g0 := hnum'.cell Y hYN
            have gf := hnum'.free Y
            have hzn' := hnum'.lt
            have hzd := World.block_lt_of_cell? _ _ d0
            simp only at hzd
            have hsn := hf'.sn Y (by rw [← HNN.out]; exact hYN)
            have hlen' := hf'.len V.out
            have HMEM := Lib.hid hmem
            have HTK1 := Lib.hid htk1
            have HLEN' : Hid (q'.length + 1 ≤ 1000000) := Lib.hid (by have := HNN.out; omega)
            clear hf' hcl' htk hown' hnum' hq' hE' hcc hY hyb hmem htk1 hlen'
            by_cases hin : (Y : Int) ∈ (o ++ [(ii : Int)]) ++ q'
            · rw [if_pos hin] at hsn
              rw [hsn] at g0
              have HIN := Lib.hid hin
              clear hsn hin
              go_wp2_with fail
              go_roundw
              case rel =>
                refine ⟨k + 1, q', seen', by omega, by go_num, HF'.out, HCL'.out, fun y hy => ?_, HQ'.out, HOWN'.out, HNUM'.out, HE'.out⟩
                rw [HTK1.out] at hy
                rcases List.mem_append.1 hy with hy | hy
                · exact HTK.out y hy
                · simp at hy; subst hy; exact HIN.out
              case measure => simp [intOf]; omega
            · rw [if_neg hin] at hsn
              rw [hsn] at g0
              have HIN := Lib.hid hin
              clear hsn hin
              have hq2' : Que (wr.setCell ⟨w.heap.size + 1, Y, none⟩ (.int .i64 1)) (w.heap.size + 2) (.slice (some ua) un uc) q' := HQ'.out.kept (S := fun k => k ≠ w.heap.size + 1) ((Kept.refl _ wr).setCell (fun _ h => h rfl) _) (fun g cur hg _ _ => by omega)
              have HQ2' := Lib.hid hq2'
              have hE2' : Ext w (wr.setCell ⟨w.heap.size + 1, Y, none⟩ (.int .i64 1)) := HE'.out.setCell (by simp only; omega) _
              have HE2' := Lib.hid hE2'
              have hsz' := HE'.out.size
              clear hq2' hE2'
              go_wp2_with (at_builtin; refine wpQue rfl (.tmp 64) (.tmp 66) rfl (w.heap.size + 2) rfl (HQ2'.out.ext (by exact (by repeat (first | exact Below.refl _ _ | refine Ext.al ?_ _ | refine Ext.dr ?_ | refine Ext.drN ?_ _ | refine Ext.gr ?_ _ | refine Ext.set ?_ (by simp) _ | (refine Ext.trans' ?_ (by assumption)))))) (Y : Int) wr.heap.size 1 rfl (by simp [go_sem]) HLEN'.out (by simp [World.setCell]; omega) ?_)
              intro v6 W6 hq6 hk6
              obtain ⟨qa, qn, qc, rfl⟩ := hq6.form
              have hown2' : Owns (wr.setCell ⟨w.heap.size + 1, Y, none⟩ (.int .i64 1)) w.heap.size 73 5 (.slice va vn vc) ((o ++ [(ii : Int)]).map (stR ks)) := by
                obtain ⟨cur, h1, _⟩ := HNUM'.out
                exact HOWN'.out.setOther h1 (by decide) Y _
              have hk7 : Kept (fun k => some k ≠ (Value.slice (some ua) un uc).ownBlock) (wr.setCell ⟨w.heap.size + 1, Y, none⟩ (.int .i64 1)) W6 := ((Kept.refl _ _).alloc _).trans hk6
              have hown6 := hown2'.keptAt hk7 fun g cur hb hg hc e => by
                obtain ⟨_, cur2, h2⟩ := HQ2'.out.own g e.symm
                rw [h2] at hc; cases hc
              have hnum6 := (HNUM'.out.set Y 1).of_heap (hk7.same _ (by simpa [World.setCell] using hzn') fun e => by have := (HQ2'.out.own _ e.symm).1; omega)
              have hE6 : Ext w W6 := HE2'.out.trans (Kept.below (hk7.mono fun j _ hj e => by have := (HQ2'.out.own j e.symm).1; omega) (by have := HE2'.out.size; exact this))
              have hadd := HF'.out.add V.out (i := (ii : Int)) (by simp) HMEM.out HIN.out
              have HADD := Lib.hid hadd
              have HQ6 := Lib.hid hq6
              have HOWN6 := Lib.hid hown6
              have HNUM6 := Lib.hid hnum6
              have HE6 := Lib.hid hE6
              clear hq6 hk6 hown2' hk7 hown6 hnum6 hE6 hadd
              go_wp2_with fail
              go_roundw
              case rel =>
                refine ⟨k + 1, q' ++ [(Y : Int)], _, by omega, by go_num, HADD.out, fun x hx y hy => ?_, fun y hy => ?_, HQ6.out, HOWN6.out, HNUM6.out.congr fun j _ => ?_, HE6.out⟩
                · have := HCL'.out x hx y hy
                  rw [← List.append_assoc]; exact List.mem_append_left _ this
                · rw [← List.append_assoc]
                  rw [HTK1.out] at hy
                  rcases List.mem_append.1 hy with hy | hy
                  · exact List.mem_append_left _ (HTK.out y hy)
                  · exact List.mem_append_right _ hy
                · by_cases e : j = Y
                  · rw [if_pos e, if_pos (by omega)]
                  · rw [if_neg e, if_neg (by omega)]
              case measure => simp [intOf]; omega
          · have hkl : k = l.length := by omega
            have HKL := Lib.hid hkl
            have hlen' := hf'.len V.out
            clear hf' hcl' htk hown' hnum' hq' hE' hkl
            go_wp2_with fail
            go_roundw
            case rel =>
              refine ⟨o ++ [(ii : Int)], q', seen', HF'.out, fun x hx y hy => ?_, HQ'.out, HOWN'.out, HNUM'.out, HE'.out⟩
              rcases List.mem_append.1 hx with hx | hx
              · exact HCL'.out x hx y hy
              · simp at hx; subst hx
                rw [← HL.out] at hy
                refine HTK.out y ?_
                rw [HKL.out, List.take_length]; exact hy
            case measure =>
              have h1 := HVN.out
              have h2 := HON.out
              have h3 := HNN.out
              simp at hlen'
              simp [slLen]
              omega
end Go.Proofs.Ytndgaklcnhoddaa
namespace Go.Proofs.Ytndgaklcnhoddaa
structure CircI (ks : List Int) (st : Int) (o q seen : List Int) (bf : Int → Int) (d : Int → Nat) : Prop where
  b : Bfs (nxN ks) st (o ++ q) o.length seen d
  ch : ∀ x, 0 < d x → ∃ row, Chain ks bf st (d x) x row
  ze : ∀ x, d x = 0 → bf x = 0
  bd : ∀ x ∈ o ++ q, 0 ≤ x ∧ x < prodK ks
  le : ∀ x, d x + 1 ≤ (o ++ q).length
theorem Chain.bpos {ks : List Int} {bf : Int → Int} {st : Int} (h0 : 0 ≤ st) {k : Nat} {y : Int} {row : List Int} (h : Chain ks bf st k y row) : 0 < bf y := by
  cases h with
  | one h1 _ _ => rw [h1]; omega
  | more _ _ _ h1 _ _ => rw [h1]; omega
theorem CircI.start {ks : List Int} {st : Int} (h0 : 0 ≤ st) (h1 : st < prodK ks) : CircI ks st [] [st] [] (fun _ => 0) (fun _ => 0) :=
  ⟨Bfs.start _ _, fun x h => by omega, fun _ _ => rfl, fun x hx => by simp at hx; subst hx; exact ⟨h0, h1⟩, fun x => by simp⟩
section
variable {ks : List Int} {st : Int} {o q seen : List Int} {bf : Int → Int} {d : Int → Nat}
theorem CircI.len (h : CircI ks st o q seen bf d) (v : TVal ks) : o.length + q.length ≤ nSt ks := by
  have h1 : ((o ++ q).map Int.toNat).Nodup := nodup_map _ h.b.nodup fun x hx y hy e => by
    have := h.bd x hx
    have := h.bd y hy
    omega
  have h2 := nodup_le (nSt ks) _ h1 fun x hx => by
    obtain ⟨y, hy, rfl⟩ := List.mem_map.1 hx
    have := h.bd y hy
    have := nSt_eq v
    omega
  simpa using h2
theorem CircI.dpos (h : CircI ks st o q seen bf d) {x : Int} (hx : bf x ≠ 0) : 0 < d x := by
  rcases Nat.eq_zero_or_pos (d x) with e | e
  · exact absurd (h.ze x e) hx
  · exact e
theorem CircI.dzero (h : CircI ks st o q seen bf d) (h0 : 0 ≤ st) {x : Int} (hx : bf x = 0) : d x = 0 := by
  rcases Nat.eq_zero_or_pos (d x) with e | e
  · exact e
  · obtain ⟨row, hr⟩ := h.ch x e
    have := hr.bpos h0
    omega
theorem CircI.nonneg (h : CircI ks st o q seen bf d) (h0 : 0 ≤ st) (x : Int) : 0 ≤ bf x := by
  rcases Nat.eq_zero_or_pos (d x) with e | e
  · rw [h.ze x e]; exact Int.le_refl _
  · obtain ⟨row, hr⟩ := h.ch x e
    have := hr.bpos h0
    omega
theorem CircI.at_ {i : Int} (_ : CircI ks st o (i :: q) seen bf d) : (o ++ i :: q).getD o.length st = i := by
  rw [List.getD_eq_getElem?_getD, List.getElem?_append_right (Nat.le_refl _)]; simp
theorem CircI.skip {i : Int} (h : CircI ks st o (i :: q) seen bf d) {y : Int} (hy : bf y ≠ 0) : CircI ks st o (i :: q) (seen ++ [y]) bf d :=
  { h with b := h.b.skip (by simp) (h.dpos hy) }
theorem CircI.next {i : Int} (h : CircI ks st o (i :: q) seen bf d) (hs : ∀ y ∈ nxN ks i, y ∈ seen) : CircI ks st (o ++ [i]) q [] bf d := by
  have e : (o ++ [i]) ++ q = o ++ i :: q := by simp
  refine ⟨?_, h.ch, h.ze, by rw [e]; exact h.bd, by rw [e]; exact h.le⟩
  rw [e]
  have := h.b.next (by simp) (by rw [h.at_]; exact hs)
  simpa using this
/-- the way to a state that the current one leads to -/
theorem CircI.chain {i : Int} (h : CircI ks st o (i :: q) seen bf d) (h0 : 0 ≤ st) {y : Int} {w : Nat} (hw : (nxN ks i)[w]? = some y) (hy : bf y = 0) :
    ∃ row, Chain ks (setB bf y (1 + i * 5 + w)) st (farQ st d (o ++ i :: q) o.length + 1) y row := by
  have hwl := (nxN_at hw).2.1
  by_cases e : o = []
  · subst e
    have hi : i = st := by have := h.b.head; simpa using this
    subst hi
    exact ⟨_, .one (by unfold setB; rw [if_pos rfl]) hwl hw⟩
  · have hl : o.length ≠ 0 := by
      intro hl
      exact e (List.eq_nil_of_length_eq_zero hl)
    have hp := h.b.pos o.length (by omega) (by simp)
    rw [h.at_] at hp
    obtain ⟨row, hr⟩ := h.ch i hp
    have hf : farQ st d (o ++ i :: q) o.length = d i := by unfold farQ; rw [if_neg hl, h.at_]
    rw [hf]
    have hne : i ≠ st := by
      intro hi
      rw [hi, h.b.new] at hp
      omega
    have hi0 := (h.bd i (by simp)).1
    exact ⟨_, .more (hr.keep h0 hy) hne hi0 (by unfold setB; rw [if_pos rfl]) hwl hw⟩
theorem CircI.far {i : Int} (h : CircI ks st o (i :: q) seen bf d) : farQ st d (o ++ i :: q) o.length + 1 ≤ (o ++ i :: q).length := by
  unfold farQ
  split
  · simp; omega
  · exact h.le _
theorem CircI.add {i : Int} (h : CircI ks st o (i :: q) seen bf d) (v : TVal ks) (h0 : 0 ≤ st) {y : Int} {w : Nat} (hw : (nxN ks i)[w]? = some y) (hy : bf y = 0) (hne : y ≠ st) :
    ∃ d', CircI ks st o (i :: (q ++ [y])) (seen ++ [y]) (setB bf y (1 + i * 5 + w)) d' := by
  have hm : y ∈ nxN ks i := List.mem_of_getElem? hw
  have hb := h.b.add (by simp) (h.dzero h0 hy) hne (by rw [h.at_]; exact hm)
  have e : o ++ i :: (q ++ [y]) = (o ++ i :: q) ++ [y] := by simp
  have hfar := h.far
  obtain ⟨row, hr⟩ := h.chain h0 hw hy
  refine ⟨_, by rw [e]; exact hb, fun x hx => ?_, fun x hx => ?_, fun x hx => ?_, fun x => ?_⟩
  · by_cases exy : x = y
    · subst exy
      rw [setD_at]
      exact ⟨row, hr⟩
    · rw [setD_off _ _ exy] at hx ⊢
      obtain ⟨r2, hr2⟩ := h.ch x hx
      exact ⟨r2, hr2.keep h0 hy⟩
  · by_cases exy : x = y
    · subst exy
      rw [setD_at] at hx
      omega
    · rw [setD_off _ _ exy] at hx
      unfold setB
      rw [if_neg exy]
      exact h.ze x hx
  · rw [e] at hx
    rcases List.mem_append.1 hx with hx | hx
    · exact h.bd x hx
    · simp at hx; subst hx; exact nxN_bd v hm
  · rw [e, List.length_append]
    by_cases exy : x = y
    · subst exy
      rw [setD_at]
      simp only [List.length_singleton]
      omega
    · rw [setD_off _ _ exy]
      have := h.le x
      omega
/-- back at the start -/
theorem CircI.found {i : Int} (h : CircI ks st o (i :: q) seen bf d) (v : TVal ks) (h0 : 0 ≤ st) {w : Nat} (hw : (nxN ks i)[w]? = some st) :
    ∃ row k, Chain ks (setB bf st (1 + i * 5 + w)) st k st row ∧ row.length = k ∧ Wlk (nxN ks) k st st ∧ (∀ m, 1 ≤ m → Wlk (nxN ks) m st st → k ≤ m) ∧ k ≤ nSt ks := by
  have hs : bf st = 0 := h.ze st h.b.new
  obtain ⟨row, hr⟩ := h.chain h0 hw hs
  have hf := h.b.found (by simp) (by rw [h.at_]; exact List.mem_of_getElem? hw)
  have h1 := h.far
  have h2 := h.len v
  exact ⟨row, _, hr, hr.len, hf.1, hf.2, by simp at h1 h2; omega⟩
theorem CircI.none (h : CircI ks st o [] seen bf d) : ∀ m, 1 ≤ m → ¬ Wlk (nxN ks) m st st := by
  have hb := h.b
  have e : o.length = (o ++ ([] : List Int)).length := by simp
  rw [e] at hb
  exact hb.none
end
/-- how many states have been found -/
def nzC (bf : Int → Int) (N : Nat) : Nat := (List.range N).countP fun (j : Nat) => bf (j : Int) != 0
theorem nzC_zero (N : Nat) : nzC (fun _ => 0) N = 0 := by unfold nzC; simp
theorem nzC_same {bf bg : Int → Int} : ∀ (N : Nat), (∀ j : Nat, j < N → bf j = bg j) → nzC bf N = nzC bg N
  | 0, _ => rfl
  | N + 1, h => by
    have ih := nzC_same N fun j hj => h j (by omega)
    unfold nzC at ih ⊢
    rw [List.range_succ, List.countP_append, List.countP_append, ih]
    simp [List.countP_cons, h N (by omega)]
theorem nzC_set {bf : Int → Int} {y : Nat} {v : Int} (hy : bf y = 0) (hv : v ≠ 0) : ∀ (N : Nat), y < N → nzC (setB bf y v) N = nzC bf N + 1
  | 0, h => by omega
  | N + 1, h => by
    by_cases e : y = N
    · subst e
      have ih : nzC (setB bf y v) y = nzC bf y := nzC_same y fun j hj => by unfold setB; rw [if_neg (by omega)]
      unfold nzC at ih ⊢
      rw [List.range_succ, List.countP_append, List.countP_append, ih]
      simp [setB, hy, hv]
    · have ih := nzC_set hy hv N (by omega)
      unfold nzC at ih ⊢
      rw [List.range_succ, List.countP_append, List.countP_append, ih]
      have : setB bf y v N = bf N := by unfold setB; rw [if_neg (by omega)]
      simp [List.countP_cons, this]
      omega
def nzB (W : World) (g N : Nat) : Nat := (List.range N).countP fun (j : Nat) => match W.cell? ⟨g, j, none⟩ with | some (.int _ x) => x != 0 | _ => false
theorem NumB.nz {W : World} {g N : Nat} {bf : Int → Int} (h : NumB W g N fun j => bf j) : nzB W g N = nzC bf N := by
  unfold nzB nzC
  refine List.countP_congr fun j hj => ?_
  rw [h.cell j (List.mem_range.1 hj)]
/-- the best circle that starts before a state -/
structure BestC (ks : List Int) (s : Nat) (row : List Int) : Prop where
  cl : row ≠ [] → ∃ j, 0 ≤ j ∧ j < prodK ks ∧ Wlk (nxN ks) row.length j j ∧ WinL ks row ∧ ∀ a, playP ks a (stOf ks j) row = (some (stOf ks j), a + row.length)
  le : ∀ j k, 0 ≤ j → j < (s : Int) → 1 ≤ k → Wlk (nxN ks) k j j → row ≠ [] ∧ row.length ≤ k
theorem BestC.zero (ks : List Int) : BestC ks 0 [] := ⟨fun h => absurd rfl h, fun j k h0 h1 => by omega⟩
theorem BestC.none {ks : List Int} {s : Nat} {row : List Int} (h : BestC ks s row) (hn : ∀ m, 1 ≤ m → ¬ Wlk (nxN ks) m (s : Int) s) : BestC ks (s + 1) row :=
  ⟨h.cl, fun j k h0 h1 hk hw => by
    by_cases e : j = (s : Int)
    · subst e; exact absurd hw (hn k hk)
    · exact h.le j k h0 (by omega) hk hw⟩
theorem BestC.keep {ks : List Int} {s : Nat} {row : List Int} (h : BestC ks s row) {k : Nat} (hm : ∀ m, 1 ≤ m → Wlk (nxN ks) m (s : Int) s → k ≤ m) (hne : row ≠ []) (hk : row.length ≤ k) : BestC ks (s + 1) row :=
  ⟨h.cl, fun j k2 h0 h1 hk2 hw => by
    by_cases e : j = (s : Int)
    · subst e
      have := hm k2 hk2 hw
      exact ⟨hne, by omega⟩
    · exact h.le j k2 h0 (by omega) hk2 hw⟩
theorem BestC.better {ks : List Int} {s : Nat} {row : List Int} (h : BestC ks s row) (v : TVal ks) (hs : (s : Int) < prodK ks) {bf : Int → Int} {k : Nat} {r2 : List Int} (hc : Chain ks bf s k s r2) (hw : Wlk (nxN ks) k (s : Int) s) (hm : ∀ m, 1 ≤ m → Wlk (nxN ks) m (s : Int) s → k ≤ m) (hb : row = [] ∨ r2.length < row.length) : BestC ks (s + 1) r2 := by
  have hl := hc.len
  have hp := hc.pos
  have hne : r2 ≠ [] := by intro e; rw [e] at hl; simp at hl; omega
  refine ⟨fun _ => ⟨s, by omega, hs, by rw [hl]; exact hw, hc.win, fun a => by rw [hl]; exact hc.play v a⟩, fun j k2 h0 h1 hk2 hw2 => ⟨hne, ?_⟩⟩
  by_cases e : j = (s : Int)
  · subst e
    have := hm k2 hk2 hw2
    omega
  · have := h.le j k2 h0 (by omega) hk2 hw2
    rcases hb with hb | hb
    · exact absurd hb this.1
    · omega
theorem BestC.short {ks : List Int} {row : List Int} (h : BestC ks (nSt ks) row) (v : TVal ks) (hz : SafeP (nxS ks) (zeroS ks)) : row ≠ [] ∧ IsShort ks row.length ∧ WinL ks row ∧ circP ks row = true := by
  have hN := nSt_eq v
  have hne : row ≠ [] := by
    obtain ⟨t, m, ht, hm, hw⟩ := (zero_safe v).1 hz
    have hb := numS_bd v.nn ht
    exact (h.le (numS ks t) m hb.1 (by omega) hm (wlk_st2 v ht hw)).1
  obtain ⟨j, h0, h1, hw, hwin, hpl⟩ := h.cl hne
  have hl : 1 ≤ row.length := by
    cases row with
    | nil => exact absurd rfl hne
    | cons a t => simp
  have hjs : isSt ks (stOf ks j) = true := st_st v.nn
  exact ⟨hne, short_num v hl h0 h1 hw fun j2 k g0 g1 hk hw2 => (h.le j2 k g0 (by omega) hk hw2).2, hwin, closed_circ v hjs hwin hne (a := 0) (by rw [hpl])⟩
end Go.Proofs.Ytndgaklcnhoddaa
