/-
  The walk of slices.Reverse on steps that a call has made itself.
  The walks of way and ring: the steps back from a place, turned about.
  The walk of ring: from the place that was bettered last, back into the ring, and round it.
  The walks of Way and Ring. What is asked of the least sums, that going back ends, is shown elsewhere.
  The walk of the reference's Steps.
-/
import Derived.Test.YtgcldgchhdjnhaaLeast
import Derived.Test.YtgcldgchhdjnhaaOwn
import Derived.Test.YtgcldgchhdjnhaaOpen
namespace Go.Proofs.Ytgcldgchhdjnhaa
open Go.RowKit Go.Shelf

/-- steps in a block, from its head on -/
structure StpsB (cur : Array Value) (n : Nat) (f : Nat → Stp) : Prop where
  size : n * 3 ≤ cur.size
  c0 : ∀ i, i < n → cur[i * 3]? = some (.bool (f i).win)
  c1 : ∀ i, i < n → cur[i * 3 + 1]? = some (.int .i64 (f i).idx)
  c2 : ∀ i, i < n → cur[i * 3 + 2]? = some (.bool (f i).back)
theorem StpsB.set {cur : Array Value} {n : Nat} {f : Nat → Stp} (h : StpsB cur n f) {i : Nat} (hi : i < n) (x : Stp) :
    StpsB (((cur.setIfInBounds (i * 3) (.bool x.win)).setIfInBounds (i * 3 + 1) (.int .i64 x.idx)).setIfInBounds (i * 3 + 2) (.bool x.back)) n (upd f i x) where
  size := by simpa using h.size
  c0 := fun j hj => by
    have hs := h.size
    by_cases e : i = j
    · subst e; rw [set_off _ (by omega), set_off _ (by omega), set_on _ (by omega)]; simp [upd]
    · rw [set_off _ (by omega), set_off _ (by omega), set_off _ (by omega), h.c0 j hj]; simp [upd, Ne.symm e]
  c1 := fun j hj => by
    have hs := h.size
    by_cases e : i = j
    · subst e; rw [set_off _ (by omega), set_on _ (by simp; omega)]; simp [upd]
    · rw [set_off _ (by omega), set_off _ (by omega), set_off _ (by omega), h.c1 j hj]; simp [upd, Ne.symm e]
  c2 := fun j hj => by
    have hs := h.size
    by_cases e : i = j
    · subst e; rw [set_on _ (by simp; omega)]; simp [upd]
    · rw [set_off _ (by omega), set_off _ (by omega), set_off _ (by omega), h.c2 j hj]; simp [upd, Ne.symm e]
theorem heap_drew_row {W : World} {b : Nat} {o : Option Obj} (h : W.heap[b]? = o) : W.drew.heap[b]? = o := h
def rv (f : Nat → Stp) (n k : Nat) : Nat → Stp := fun i => if i < k ∨ n < i + k + 1 then f (n - 1 - i) else f i

set_option maxRecDepth 100000 in
set_option maxHeartbeats 2000000 in
theorem rev_any (g n cap : Nat) (f : Nat → Stp) (cur : Array Value) (T : TypeId) (hn : n ≤ 1000000) (w : World) (hg : w.heap[g]? = some (.cells cur T (0, 0))) (hB : StpsB cur n f) :
    Calls Try.prog 103 #[.slice (some ⟨g, 0, none⟩) n cap] w fun e w' =>
      e = .returned (.tuple #[]) ∧ Kept (fun k => k ≠ g) w w' ∧ ∃ cur', w'.heap[g]? = some (.cells cur' T (0, 0)) ∧ StpsB cur' n (fun i => f (n - 1 - i)) := by
  go_enter Try.func103, Try.ntmps103
  go_wp2_with fail
  go_loopw [2, 3] (fun i j W => ∃ (k : Nat) (cur' : Array Value), 2 * k ≤ n + 1 ∧ i = .int .i64 k ∧ j = .int .i64 ((n : Int) - 1 - k) ∧ Kept (fun k => k ≠ g) w W ∧ W.heap[g]? = some (.cells cur' T (0, 0)) ∧ StpsB cur' n (rv f n k)) (fun i _ _ => n + 1 - (intOf i).toNat)
  case atStart =>
    refine ⟨0, cur, by omega, rfl, by simp, Kept.refl _ _, hg, ?_⟩
    have e : ∀ i, i < n → rv f n 0 i = f i := fun i hi => by unfold rv; rw [if_neg (by omega)]
    exact ⟨hB.size, fun i hi => by rw [e i hi]; exact hB.c0 i hi, fun i hi => by rw [e i hi]; exact hB.c1 i hi, fun i hi => by rw [e i hi]; exact hB.c2 i hi⟩
  case round =>
    obtain ⟨k, cur', hk, rfl, rfl, hK, hh, hBB⟩ := hrel
    have HK := Lib.hid hK
    have HH := Lib.hid hh
    have HBB := Lib.hid hBB
    by_cases hlt : (k : Int) < (n : Int) - 1 - k
    · obtain ⟨m, hm⟩ : ∃ m : Nat, (n : Int) - 1 - k = m := ⟨n - 1 - k, by omega⟩
      have a0 : wr.cell? ⟨g, k * 3, none⟩ = some (.bool (rv f n k k).win) := by rw [cell_of_row _ _ _ _ _ _ hh]; exact hBB.c0 k (by omega)
      have a1 : wr.cell? ⟨g, k * 3 + 1, none⟩ = some (.int .i64 (rv f n k k).idx) := by rw [cell_of_row _ _ _ _ _ _ hh]; exact hBB.c1 k (by omega)
      have a2 : wr.cell? ⟨g, k * 3 + 2, none⟩ = some (.bool (rv f n k k).back) := by rw [cell_of_row _ _ _ _ _ _ hh]; exact hBB.c2 k (by omega)
      have b0 : wr.cell? ⟨g, m * 3, none⟩ = some (.bool (rv f n k m).win) := by rw [cell_of_row _ _ _ _ _ _ hh]; exact hBB.c0 m (by omega)
      have b1 : wr.cell? ⟨g, m * 3 + 1, none⟩ = some (.int .i64 (rv f n k m).idx) := by rw [cell_of_row _ _ _ _ _ _ hh]; exact hBB.c1 m (by omega)
      have b2 : wr.cell? ⟨g, m * 3 + 2, none⟩ = some (.bool (rv f n k m).back) := by rw [cell_of_row _ _ _ _ _ _ hh]; exact hBB.c2 m (by omega)
      have hfr : ∀ o, wr.frozen? ⟨g, o, none⟩ = false := fun o => by simp [World.frozen?, hh]
      have f0 := hfr (k * 3)
      have f1 := hfr (k * 3 + 1)
      have f2 := hfr (k * 3 + 2)
      have g0 := hfr (m * 3)
      have g1 := hfr (m * 3 + 1)
      have g2 := hfr (m * 3 + 2)
      have hkm : k < m := by omega
      have hmn : m < n := by omega
      have hmn2 : m + k + 1 = n := by omega
      have n0 : ¬ k * 3 = m * 3 := by omega
      have n1 : ¬ k * 3 + 1 = m * 3 := by omega
      have n2 : ¬ k * 3 + 2 = m * 3 := by omega
      have n3 : ¬ k * 3 = m * 3 + 1 := by omega
      have n5 : ¬ k * 3 + 2 = m * 3 + 1 := by omega
      have n6 : ¬ k * 3 = m * 3 + 2 := by omega
      have n7 : ¬ k * 3 + 1 = m * 3 + 2 := by omega
      rw [hm]
      clear hK hh hBB hm hlt hfr
      go_wp2_with fail
      go_region
      go_wp2_with fail
      go_roundw
      case rel =>
        refine ⟨k + 1, _, by omega, by go_num, (by congr 1; omega), ?_, heap_drew_row (heap_setCell_row (heap_setCell_row (heap_setCell_row (heap_setCell_row (heap_setCell_row (heap_setCell_row HH.out _ _) _ _) _ _) _ _) _ _) _ _), ?_⟩
        · refine Kept.drew ?_
          exact (((((HK.out.setCell (p := ⟨g, _, none⟩) (fun _ hne => hne rfl) _).setCell (p := ⟨g, _, none⟩) (fun _ hne => hne rfl) _).setCell (p := ⟨g, _, none⟩) (fun _ hne => hne rfl) _).setCell (p := ⟨g, _, none⟩) (fun _ hne => hne rfl) _).setCell (p := ⟨g, _, none⟩) (fun _ hne => hne rfl) _).setCell (p := ⟨g, _, none⟩) (fun _ hne => hne rfl) _
        · have hb := (HBB.out.set (i := k) (by omega) (rv f n k m)).set (i := m) (by omega) (rv f n k k)
          have e : ∀ i, i < n → upd (upd (rv f n k) k (rv f n k m)) m (rv f n k k) i = rv f n (k + 1) i := fun i hi => by
            have ek : rv f n k k = f k := by unfold rv; rw [if_neg (by omega)]
            have em : rv f n k m = f m := by unfold rv; rw [if_neg (by omega)]
            rw [ek, em]
            unfold upd rv
            by_cases h1 : i = m
            · subst h1
              rw [if_pos rfl, if_pos (by omega), show n - 1 - i = k by omega]
            · rw [if_neg h1]
              by_cases h2 : i = k
              · subst h2
                rw [if_pos rfl, if_pos (by omega), show n - 1 - i = m by omega]
              · rw [if_neg h2]
                by_cases h3 : i < k ∨ n < i + k + 1
                · rw [if_pos h3, if_pos (by omega)]
                · rw [if_neg h3, if_neg (by omega)]
          exact ⟨hb.size, fun i hi => by rw [← e i hi]; exact hb.c0 i hi, fun i hi => by rw [← e i hi]; exact hb.c1 i hi, fun i hi => by rw [← e i hi]; exact hb.c2 i hi⟩
      case measure => simp [intOf]; omega
    · go_wp2_with fail
      go_end0
      refine ⟨rfl, HK.out, cur', HH.out, ?_⟩
      have e : ∀ i, i < n → rv f n k i = f (n - 1 - i) := fun i hi => by
        unfold rv
        by_cases h3 : i < k ∨ n < i + k + 1
        · rw [if_pos h3]
        · rw [if_neg h3, show n - 1 - i = i by omega]
      have hb := HBB.out
      exact ⟨hb.size, fun i hi => by rw [← e i hi]; exact hb.c0 i hi, fun i hi => by rw [← e i hi]; exact hb.c1 i hi, fun i hi => by rw [← e i hi]; exact hb.c2 i hi⟩

set_option maxHeartbeats 1000000 in
theorem rev_nil (w : World) : Calls Try.prog 103 #[.slice none 0 0] w fun e w' => e = .returned (.tuple #[]) ∧ Ext w w' := by
  go_enter Try.func103, Try.ntmps103
  go_wp2_with fail
  go_loopw [2, 3] (fun i j W => i = .int .i64 0 ∧ j = .int .i64 (-1) ∧ Ext w W) (fun i _ _ => 0)
  case atStart => exact ⟨rfl, rfl, Below.refl _ _⟩
  case round =>
    obtain ⟨rfl, rfl, hb⟩ := hrel
    go_wp2_with fail
    go_end0
    exact ⟨rfl, hb⟩
end Go.Proofs.Ytgcldgchhdjnhaa
namespace Go.Proofs.Ytgcldgchhdjnhaa
open Go.RowKit Go.Shelf

theorem elStp : El 39 89 3 := El.mk' (bytes := 24) (z := .agg #[.bool false, .int .i64 0, .bool false]) (by kernel_rfl) (by kernel_rfl) rfl (by omega) (by omega)
def sRows (l : List Stp) : List (List Value) := l.map Stp.cells
theorem sRows_len {l : List Stp} : ∀ r ∈ sRows l, r.length = 3 := by
  intro r hr
  obtain ⟨x, _, rfl⟩ := List.mem_map.1 hr
  rfl
/-- what is owned, as a block -/
theorem Owns.block {w : World} {B : Nat} {e : TypeId} {g cap : Nat} {l : List Stp} (h : Owns w B e 3 (.slice (some ⟨g, 0, none⟩) l.length cap) (sRows l)) :
    ∃ cur, w.heap[g]? = some (.cells cur e (0, 0)) ∧ StpsB cur l.length (fun i => l.getD i ⟨false, 0, false⟩) := by
  have hrl : (sRows l).length = l.length := by simp [sRows]
  obtain ⟨sa, cap', e1, _, _, h3⟩ := h.form
  rcases h.1.2 with ⟨e2, _⟩ | ⟨g', cap2, cur, e2, _, hg, hc, _, hs, _⟩
  · cases e2
  · simp only [Value.slice.injEq, Option.some.injEq, Addr.mk.injEq] at e2 e1
    obtain ⟨⟨rfl, _⟩, _, rfl⟩ := e2
    obtain ⟨rfl, _, rfl⟩ := e1
    refine ⟨cur, hg, ?_⟩
    rcases h3 with ⟨_, e3, _⟩ | ⟨g2, e3, _, _, hr, _⟩
    · cases e3
    · simp only [Option.some.injEq, Addr.mk.injEq] at e3
      obtain ⟨rfl, _⟩ := e3
      have hcell : ∀ i, (hi : i < l.length) → ∀ j, (hj : j < 3) → cur[i * 3 + j]? = some ((l.getD i ⟨false, 0, false⟩).cells[j]'(by simpa [Stp.cells] using hj)) := fun i hi j hj => by
        have := hr i (by rw [hrl]; exact hi) j (by simpa [sRows, Stp.cells] using hj)
        rw [cell_of_row _ _ _ _ _ _ hg, Nat.zero_add] at this
        rw [this]
        simp [sRows, List.getD, hi]
      refine ⟨by rw [hrl] at hc; have := Nat.mul_le_mul_right 3 hc; omega, fun i hi => ?_, fun i hi => ?_, fun i hi => ?_⟩
      · simpa [Stp.cells] using hcell i hi 0 (by omega)
      · simpa [Stp.cells] using hcell i hi 1 (by omega)
      · simpa [Stp.cells] using hcell i hi 2 (by omega)
theorem StpsB.isStps {w : World} {g n cap : Nat} {cur : Array Value} {T : TypeId} {f : Nat → Stp} {l : List Stp} (hb : StpsB cur n f) (hg : w.heap[g]? = some (.cells cur T (0, 0))) (hl : l.length = n) (hc : n ≤ cap) (hm : cap ≤ 9223372036854775807)
    (he : ∀ i, (h : i < l.length) → f i = l[i]) : IsStps w (.slice (some ⟨g, 0, none⟩) n cap) l := by
  subst hl
  refine IsStps.mk hc hm fun i hi => ?_
  rw [cell_of_row _ _ _ _ _ _ hg, cell_of_row _ _ _ _ _ _ hg, cell_of_row _ _ _ _ _ _ hg, Nat.zero_add]
  rw [← he i hi]
  exact ⟨hb.c0 i hi, hb.c1 i hi, hb.c2 i hi⟩
theorem kept_ext {w W W' : World} {g : Nat} (h : Ext w W) (hg : w.heap.size ≤ g) (k : Kept (fun j => j ≠ g) W W') : Ext w W' :=
  h.trans ⟨k.os, k.tape, k.output, k.size, fun j hj => k.same j (by have := h.size; omega) (by omega)⟩

set_option maxRecDepth 100000 in
set_option maxHeartbeats 2000000 in
theorem way_any (s : WSt) (start to K : Nat) (hK : K ≤ 1000) (hch : Chain s start K to) (b : Nat) (w : World) (hw : WaysAt w b s) :
    Calls Try.prog 76 #[.pointer (some ⟨b, 0, none⟩), .int .i64 start, .int .i64 to] w fun e w' =>
      ∃ v, e = .returned v ∧ Ext w w' ∧ IsStps w' v (backs s K to).reverse := by
  have HW := Lib.hid hw
  have hbw := hw.lt
  clear hw
  go_enter Try.func76, Try.ntmps76
  go_wp2_with fail
  go_loopw [7, 8] (fun v i W => ∃ (j at_ : Nat) (pre : List Stp), j ≤ K ∧ i = .int .i64 at_ ∧ Chain s start j at_ ∧ pre ++ backs s j at_ = backs s K to ∧ Ext w W ∧ Owns W w.heap.size 89 3 v (sRows pre)) (fun _ i _ => clen s start K (intOf i).toNat)
  case atStart => exact ⟨K, to, [], Nat.le_refl _, rfl, hch, rfl, Below.refl _ _, Owns.nil _ _ _ _⟩
  case round =>
    obtain ⟨j, at_, pre, hj, rfl, hc, hpre, hE, hown⟩ := hrel
    have HE := Lib.hid hE
    have HO := Lib.hid hown
    have HC := Lib.hid hc
    have HP := Lib.hid hpre
    have hpl : pre.length + j = K := by
      have := congrArg List.length hpre
      simpa [backs_len] using this
    have hcl := clen_chain hc hj
    have HCL := Lib.hid hcl
    have hz := hE.size
    clear hcl
    cases j with
    | succ j =>
      obtain ⟨q1, q2, q3, q4, q5⟩ := hc
      have HQ5 := Lib.hid q5
      have hne : ((at_ : Int) == (start : Int)) = false := by simp; omega
      have e0 := (HW.out.ext hE).b0 (i := at_) q2
      have e1 := (HW.out.ext hE).b1 (i := at_) q2
      have e2 := (HW.out.ext hE).b2 (i := at_) q2
      have eb := (HW.out.ext hE).befo (i := at_) q2
      have EB := Lib.hid eb
      have hbw' : b < wr.heap.size := by omega
      have hi11 : (at_ : Int) < 11 := by omega
      obtain ⟨va, vcap, rfl, hv1, hv2, hv3⟩ := hown.form
      have hrl : (sRows pre).length = pre.length := by simp [sRows]
      rw [hrl] at hv1 ⊢
      have HRL := Lib.hid hrl
      have hold : Hid ((va = none ∧ sRows pre = [] ∧ pre.length = 0) ∨ ∃ b off, va = some ⟨b, off, none⟩ ∧ RowsAt wr 3 b off (sRows pre)) := by
        refine Lib.hid ?_
        rcases hv3 with ⟨h1, h2, _⟩ | ⟨g, h1, _, _, h2, _⟩
        · exact .inl ⟨h2, h1, by rw [← hrl, h1]; rfl⟩
        · exact .inr ⟨g, 0, h1, h2⟩
      clear hpre hE hown q5 eb hrl hv3
      go_wp2_with fail
      go_region_law (refine stepGrow rfl (.tmp 24) (.tmp 31) elStp rfl va pre.length (rows := sRows pre) (by rw [HRL.out]; rfl) sRows_len (hold.out.imp id fun ⟨b, off, h1, h2⟩ => ⟨b, off, h1, h2.ext (by exact (by repeat (first | exact Below.refl _ _ | refine Ext.al ?_ _ | refine Ext.dr ?_ | refine Ext.drN ?_ _ | refine Ext.gr ?_ _ | refine Ext.set ?_ (by simp) _ | (refine Ext.trans' ?_ (by assumption)))))⟩) wr.heap.size 0 1 [(s.by_ at_).cells] rfl (by simp [Stp.cells]) (rowsAt_one (fun j hj => by
          have hj3 : j < 3 := by simpa [Stp.cells] using hj
          match j, hj3 with
          | 0, _ => simp [go_sem, Stp.cells]
          | 1, _ => simp [go_sem, Stp.cells]
          | 2, _ => simp [go_sem, Stp.cells])) (by simp [Stp.cells, Value.oneCell']) (by rw [HRL.out]; simp) (by rw [HRL.out]; simp; omega) ?_; intro v' w' hown' hb')
      have hEr : Ext wr w' := Ext.trans' (by exact (by repeat (first | exact Below.refl _ _ | refine Ext.al ?_ _ | refine Ext.dr ?_ | refine Ext.drN ?_ _ | refine Ext.gr ?_ _ | refine Ext.set ?_ (by simp) _ | (refine Ext.trans' ?_ (by assumption))))) hb'
      have hs' := hEr.size
      have HEr := Lib.hid hEr
      have HO' := Lib.hid hown'
      have eb := cell_ext hEr EB.out
      clear hEr hown' hb' e0 e1 e2 hne
      go_wp2_with fail
      go_roundw
      case rel =>
        refine ⟨j, (s.before at_).toNat, pre ++ [s.by_ at_], by omega, by congr 1; omega, HQ5.out, ?_, HE.out.trans' HEr.out, ?_⟩
        · rw [← HP.out]; simp [backs]
        · have := HO'.out.base (B' := w.heap.size) (by simp; omega)
          simpa [sRows] using this
      case measure =>
        have hm := clen_chain HQ5.out (F := K) (by omega)
        have e : intOf (.int .i64 (s.before at_)) = s.before at_ := rfl
        have e2 : intOf (.int .i64 (at_ : Int)) = at_ := rfl
        simp only [e, e2, Int.toNat_natCast, HCL.out, hm]
        omega
    | zero =>
      obtain rfl : at_ = start := hc
      have hne : ((at_ : Int) == (at_ : Int)) = true := by simp
      obtain ⟨va, vcap, rfl, hv1, hv2, hv3⟩ := hown.form
      have hpk : pre = backs s K to := by rw [← HP.out]; simp [backs]
      rcases hv3 with ⟨h1, rfl, rfl⟩ | ⟨g, rfl, hg1, hg2, _, _⟩
      · have hp0 : pre = [] := by
          cases pre with
          | nil => rfl
          | cons x l => cases h1
        subst hp0
        simp only [sRows, List.map_nil, List.length_nil]
        have HPK := Lib.hid hpk
        clear hpk hpre hown hE h1
        go_wp2_with fail
        refine (rev_nil wr).mono ?_
        rintro e W' ⟨rfl, hb'⟩
        go_wp2_with fail
        refine bodyPost_ret (v := .slice none 0 0) (by simp [results, Try.results76, go_sem]) rfl ?_
        exact ⟨_, rfl, HE.out.trans' hb', by rw [← HPK.out]; exact IsStps.nil _⟩
      · have hrl : (sRows pre).length = pre.length := by simp [sRows]
        rw [hrl] at hown hv1 ⊢
        obtain ⟨cur, hcur, hB⟩ := hown.block
        have HCUR := Lib.hid hcur
        have HBB := Lib.hid hB
        have HPK := Lib.hid hpk
        clear hpk hpre hown hcur hB hE
        go_wp2_with fail
        refine (rev_any g pre.length vcap (fun i => pre.getD i ⟨false, 0, false⟩) cur _ (by omega) wr HCUR.out HBB.out).mono ?_
        rintro e W' ⟨rfl, hk', cur', hc', hb'⟩
        have HK' := Lib.hid hk'
        have HC' := Lib.hid hc'
        have HB' := Lib.hid hb'
        clear hk' hc' hb'
        go_wp2_with fail
        refine bodyPost_ret (v := .slice (some ⟨g, 0, none⟩) pre.length vcap) (by simp [results, Try.results76, go_sem]) rfl ?_
        refine ⟨_, rfl, kept_ext HE.out hg1 HK'.out, ?_⟩
        rw [← HPK.out]
        refine HB'.out.isStps HC'.out (by simp) hv1 hv2 fun i hi => ?_
        have hi' : i < pre.length := by simpa using hi
        simp [List.getD, show pre.length - 1 - i < pre.length by omega]
end Go.Proofs.Ytgcldgchhdjnhaa
namespace Go.Proofs.Ytgcldgchhdjnhaa
open Go.RowKit Go.Shelf

set_option maxRecDepth 100000 in
set_option maxHeartbeats 2000000 in
theorem ring_any (s : WSt) (K : Nat) (hK : K ≤ 1000) (hin : BefIn s) (hr0 : 0 ≤ s.ringed) (hr1 : s.ringed < 11) (hch : Chain s (ringAt s) K (s.before (ringAt s)).toNat) (b : Nat) (w : World) (hw : WaysAt w b s) :
    Calls Try.prog 86 #[.pointer (some ⟨b, 0, none⟩)] w fun e w' =>
      ∃ v, e = .returned v ∧ Ext w w' ∧ IsStps w' v (ringBack s K).reverse := by
  have HW := Lib.hid hw
  have HIN := Lib.hid hin
  have HCH := Lib.hid hch
  have hbw := hw.lt
  obtain ⟨r, hr⟩ : ∃ r : Nat, s.ringed = r := ⟨s.ringed.toNat, by omega⟩
  have hrin := hw.rin
  rw [hr] at hrin
  have hr11 : r < 11 := by omega
  have HR := Lib.hid hr
  clear hw hin hch hr hr0 hr1
  go_enter Try.func86, Try.ntmps86
  go_wp2_with fail
  clear hrin
  go_loopw [3, 11] (fun a i W => ∃ k : Nat, k ≤ 11 ∧ i = .int .i64 k ∧ a = .int .i64 (itB s k r : Nat) ∧ Ext w W) (fun _ i _ => 11 - (intOf i).toNat)
  case atStart => exact ⟨0, by omega, rfl, rfl, Below.refl _ _⟩
  case round =>
    obtain ⟨k, hk, rfl, rfl, hE⟩ := hrel
    have HE := Lib.hid hE
    have hz := hE.size
    by_cases hlt : k < 11
    · have ha := itB_lt HIN.out (k := k) hr11
      have eb := (HW.out.ext hE).befo (i := itB s k r) ha
      have hnext := itB_succ s k r
      have hbin := HIN.out _ ha
      generalize itB s k r = at_ at *
      have hi11 : (at_ : Int) < 11 := by omega
      have hbw' : b < wr.heap.size := by omega
      have HN := Lib.hid hnext
      clear hE hnext
      go_wp2_with fail
      go_roundw
      case rel => exact ⟨k + 1, by omega, by go_num, by rw [HN.out]; congr 1; omega, HE.out⟩
      case measure => simp [intOf]; omega
    · obtain rfl : k = 11 := by omega
      have hfirst : itB s 11 r = ringAt s := by unfold ringAt; rw [HR.out]; rfl
      have hF11 : ringAt s < 11 := by rw [← hfirst]; exact itB_lt HIN.out hr11
      rw [hfirst, show ((11 : Nat) : Int) = 11 from rfl]
      obtain ⟨F, hF⟩ : ∃ F, F = ringAt s := ⟨_, rfl⟩
      rw [← hF] at hF11
      have HCH' : Hid (Chain s F K (s.before F).toNat) := Lib.hid (by rw [hF]; exact HCH.out)
      have HRB : Hid (ringBack s K = s.by_ F :: backs s K (s.before F).toNat) := Lib.hid (by rw [hF]; rfl)
      rw [← hF]
      clear hE hfirst hF HCH
      obtain ⟨w1, rfl⟩ : ∃ w1 : World, w1 = wr := ⟨_, rfl⟩
      go_wp2_with fail
      go_loopw [3, 4, 6] (fun a v bg W => ∃ (at_ : Nat) (pre : List Stp), a = .int .i64 at_ ∧ Ext w1 W ∧ Owns W w1.heap.size 89 3 v (sRows pre) ∧
        ((bg = .bool false ∧ at_ = F ∧ pre = []) ∨ (bg = .bool true ∧ ∃ j, j ≤ K ∧ Chain s F j at_ ∧ pre ++ backs s j at_ = ringBack s K)))
        (fun a _ bg _ => match bg with | .bool true => clen s F K (intOf a).toNat | _ => K + 1)
      case atStart => exact ⟨F, [], rfl, Below.refl _ _, Owns.nil _ _ _ _, .inl ⟨rfl, rfl, rfl⟩⟩
      case round =>
        obtain ⟨at_, pre, rfl, hE1, hown, hcase⟩ := hrel
        have HO := Lib.hid hown
        have HE1 := Lib.hid hE1
        have hz1 := hE1.size
        rcases hcase with ⟨rfl, rfl, rfl⟩ | ⟨rfl, j, hj, hc, hpre⟩
        · obtain ⟨jj, pre, hjj, hq, hnext, ha, hown, hpre0⟩ : ∃ jj, ∃ pre : List Stp, jj ≤ K ∧ Chain s at_ jj (s.before at_).toNat ∧ (pre ++ [s.by_ at_]) ++ backs s jj (s.before at_).toNat = ringBack s K ∧ at_ < 11 ∧ Owns wr w1.heap.size 89 3 _ (sRows pre) ∧ pre = [] :=
            ⟨K, [], Nat.le_refl _, HCH'.out, by rw [HRB.out]; rfl, hF11, hown, rfl⟩
          replace HO := Lib.hid hown
          clear hpre0
          have hbin := HIN.out _ ha
          have e0 := (HW.out.ext (HE.out.trans' HE1.out)).b0 (i := at_) ha
          have e1 := (HW.out.ext (HE.out.trans' HE1.out)).b1 (i := at_) ha
          have e2 := (HW.out.ext (HE.out.trans' HE1.out)).b2 (i := at_) ha
          have eb := (HW.out.ext (HE.out.trans' HE1.out)).befo (i := at_) ha
          have EB := Lib.hid eb
          have hbw' : b < wr.heap.size := by omega
          have hi11 : (at_ : Int) < 11 := by omega
          have hpl : (sRows pre).length ≤ 1000 := by
            have := congrArg List.length hnext
            simp [backs_len, ringBack, sRows] at this ⊢
            omega
          have HNEXT := Lib.hid hnext
          have HQ := Lib.hid hq
          clear hnext hq eb hown hE1
          go_wp2_with (at_builtin; refine wpOwn rfl (.tmp 28) (.tmp 35) elStp rfl w1.heap.size rfl (HO.out.ext (by exact (by repeat (first | exact Below.refl _ _ | refine Ext.al ?_ _ | refine Ext.dr ?_ | refine Ext.drN ?_ _ | refine Ext.gr ?_ _ | refine Ext.set ?_ (by simp) _ | (refine Ext.trans' ?_ (by assumption)))))) wr.heap.size 0 1 [(s.by_ at_).cells] rfl (by simp [Stp.cells]) (rowsAt_one (fun j hj => by
              have hj3 : j < 3 := by simpa [Stp.cells] using hj
              match j, hj3 with
              | 0, _ => simp [go_sem, Stp.cells]
              | 1, _ => simp [go_sem, Stp.cells]
              | 2, _ => simp [go_sem, Stp.cells])) (by simp [Stp.cells, Value.oneCell']) (by simp; omega) (by simp; omega) ?_)
          intro v' w' hown' hb'
          have hEr : Ext w1 w' := HE1.out.trans (Below.trans (by exact ((Below.refl _ _).alloc (by omega) _)) hb')
          have hs' := hEr.size
          have hb2 : b < w'.heap.size := by omega
          have HEr := Lib.hid hEr
          have HO' := Lib.hid hown'
          have eb := (HW.out.ext (HE.out.trans' hEr)).befo (i := at_) ha
          clear hEr hown' hb' e0 e1 e2
          go_wp2_with fail
          go_roundw
          case rel =>
            refine ⟨(s.before at_).toNat, pre ++ [s.by_ at_], by congr 1; omega, HEr.out, ?_, .inr ⟨rfl, jj, hjj, HQ.out, HNEXT.out⟩⟩
            have := HO'.out
            simpa [sRows] using this
          case measure =>
            have hm := clen_chain HQ.out (F := K) hjj
            have e : intOf (.int .i64 (s.before at_)) = s.before at_ := rfl
            simp [e, hm]
            omega
        · cases j with
          | succ j =>
            obtain ⟨q1, ha, q3, q4, hq⟩ := hc
            obtain ⟨jj, hjj', hq, hnext⟩ : ∃ jj, jj + 1 ≤ K ∧ Chain s F jj (s.before at_).toNat ∧ (pre ++ [s.by_ at_]) ++ backs s jj (s.before at_).toNat = ringBack s K :=
              ⟨j, hj, hq, by rw [← hpre]; simp [backs]⟩
            have hjj : jj ≤ K := by omega
            have hne : ((at_ : Int) == (F : Int)) = false := by simp; omega
            have hcl := clen_chain (s := s) (start := F) (j := jj + 1) (a := at_) (F := K) ⟨q1, ha, q3, q4, hq⟩ hjj'
            have HCL := Lib.hid hcl
            clear hpre hcl
            have hbin := HIN.out _ ha
            have e0 := (HW.out.ext (HE.out.trans' HE1.out)).b0 (i := at_) ha
            have e1 := (HW.out.ext (HE.out.trans' HE1.out)).b1 (i := at_) ha
            have e2 := (HW.out.ext (HE.out.trans' HE1.out)).b2 (i := at_) ha
            have eb := (HW.out.ext (HE.out.trans' HE1.out)).befo (i := at_) ha
            have EB := Lib.hid eb
            have hbw' : b < wr.heap.size := by omega
            have hi11 : (at_ : Int) < 11 := by omega
            have hpl : (sRows pre).length ≤ 1000 := by
              have := congrArg List.length hnext
              simp [backs_len, ringBack, sRows] at this ⊢
              omega
            have HNEXT := Lib.hid hnext
            have HQ := Lib.hid hq
            clear hnext hq eb hown hE1
            go_wp2_with (at_builtin; refine wpOwn rfl (.tmp 28) (.tmp 35) elStp rfl w1.heap.size rfl (HO.out.ext (by exact (by repeat (first | exact Below.refl _ _ | refine Ext.al ?_ _ | refine Ext.dr ?_ | refine Ext.drN ?_ _ | refine Ext.gr ?_ _ | refine Ext.set ?_ (by simp) _ | (refine Ext.trans' ?_ (by assumption)))))) wr.heap.size 0 1 [(s.by_ at_).cells] rfl (by simp [Stp.cells]) (rowsAt_one (fun j hj => by
                have hj3 : j < 3 := by simpa [Stp.cells] using hj
                match j, hj3 with
                | 0, _ => simp [go_sem, Stp.cells]
                | 1, _ => simp [go_sem, Stp.cells]
                | 2, _ => simp [go_sem, Stp.cells])) (by simp [Stp.cells, Value.oneCell']) (by simp; omega) (by simp; omega) ?_)
            intro v' w' hown' hb'
            have hEr : Ext w1 w' := HE1.out.trans (Below.trans (by exact ((Below.refl _ _).alloc (by omega) _)) hb')
            have hs' := hEr.size
            have hb2 : b < w'.heap.size := by omega
            have HEr := Lib.hid hEr
            have HO' := Lib.hid hown'
            have eb := (HW.out.ext (HE.out.trans' hEr)).befo (i := at_) ha
            clear hEr hown' hb' e0 e1 e2
            go_wp2_with fail
            go_roundw
            case rel =>
              refine ⟨(s.before at_).toNat, pre ++ [s.by_ at_], by congr 1; omega, HEr.out, ?_, .inr ⟨rfl, jj, hjj, HQ.out, HNEXT.out⟩⟩
              have := HO'.out
              simpa [sRows] using this
            case measure =>
              have hm := clen_chain HQ.out (F := K) hjj
              have hm2 : clen s F K at_ = jj + 1 := HCL.out
              have e : intOf (.int .i64 (s.before at_)) = s.before at_ := rfl
              simp [hm, intOf, hm2]
          | zero =>
            obtain rfl : at_ = F := hc
            have hne : ((at_ : Int) == (at_ : Int)) = true := by simp
            have hpk : pre = ringBack s K := by rw [← hpre]; simp [backs]
            obtain ⟨va, vcap, rfl, hv1, hv2, hv3⟩ := hown.form
            rcases hv3 with ⟨h1, _⟩ | ⟨g, rfl, hg1, hg2, _, _⟩
            · exfalso
              have : (sRows pre).length = 0 := by rw [h1]; rfl
              rw [hpk] at this
              simp [sRows, ringBack] at this
            have hrl : (sRows pre).length = pre.length := by simp [sRows]
            rw [hrl] at hown hv1 ⊢
            have hpl : pre.length ≤ 1001 := by rw [hpk]; simp [ringBack, backs_len]; omega
            obtain ⟨cur, hcur, hB⟩ := hown.block
            have HCUR := Lib.hid hcur
            have HBB := Lib.hid hB
            have HPK := Lib.hid hpk
            clear hpk hpre hown hcur hB hE1
            go_wp2_with fail
            refine (rev_any g pre.length vcap (fun i => pre.getD i ⟨false, 0, false⟩) cur _ (by omega) wr HCUR.out HBB.out).mono ?_
            rintro e W' ⟨rfl, hk', cur', hc', hb'⟩
            have HK' := Lib.hid hk'
            have HC' := Lib.hid hc'
            have HB' := Lib.hid hb'
            clear hk' hc' hb'
            go_wp2_with fail
            refine bodyPost_ret (v := .slice (some ⟨g, 0, none⟩) pre.length vcap) (by simp [results, Try.results86, go_sem]) rfl ?_
            refine ⟨_, rfl, kept_ext (HE.out.trans' HE1.out) (by have := HE.out.size; omega) HK'.out, ?_⟩
            rw [← HPK.out]
            refine HB'.out.isStps HC'.out (by simp) hv1 hv2 fun i hi => ?_
            have hi' : i < pre.length := by simpa using hi
            simp [List.getD, show pre.length - 1 - i < pre.length by omega]
end Go.Proofs.Ytgcldgchhdjnhaa
namespace Go.Proofs.Ytgcldgchhdjnhaa
open Go.RowKit Go.Shelf

set_option maxRecDepth 100000 in
set_option maxHeartbeats 2000000 in
theorem wayP_any (h : Hall) (sv : Value) (f t : Int) (w : World) (hs : IsCnts w sv h.cs) (hM : wayErr h f t = 0 → ∃ K, K ≤ 1000 ∧ Chain (leastM h f.toNat).1 f.toNat K t.toNat) :
    Calls Try.prog 30 #[.agg #[.int .i64 h.n, .int .i64 h.most, sv], .int .i64 f, .int .i64 t] w fun e w' =>
      ∃ v l, e = .returned (.tuple #[v, .int .i64 (wayErr h f t)]) ∧ Ext w w' ∧ IsStps w' v l ∧ (wayErr h f t = 0 → ∃ K, K ≤ 1000 ∧ Chain (leastM h f.toNat).1 f.toNat K t.toNat ∧ l = (backs (leastM h f.toNat).1 K t.toNat).reverse) ∧ (wayErr h f t ≠ 0 → l = []) := by
  obtain ⟨ca, ccap, rfl, hm1, hm2, -⟩ := hs.spec
  have HS := Lib.hid hs
  have HM := Lib.hid hM
  clear hs hM
  by_cases ho : openE h [f, t] = 0
  · obtain ⟨hc, p1, p2, p3, p4⟩ := open_places ho
    obtain ⟨F, rfl⟩ : ∃ F : Nat, f = F := ⟨f.toNat, by omega⟩
    obtain ⟨T, rfl⟩ : ∃ T : Nat, t = T := ⟨t.toNat, by omega⟩
    have V := Lib.hid (valid_of_chk hc)
    go_enter Try.func30, Try.ntmps30
    go_wp2_with fail
    refine (open_ok h (.slice ca h.cs.length ccap) _ [(F : Int), (T : Int)] _ (HS.out.ext (by repeat (first | exact Below.refl _ _ | refine Ext.al ?_ _ | refine Ext.dr ?_ | refine Ext.drN ?_ _ | refine Ext.gr ?_ _ | refine Ext.set ?_ (by simp) _ | (refine Ext.trans' ?_ (by assumption))))) (isInts_two (by omega) (by omega) (by simp [go_sem]) (by simp [go_sem])) ho).mono ?_
    rintro e W1 ⟨b, r, rfl, hb1, hsh⟩
    have HE1 := Lib.hid (Ext.trans' (by exact (by repeat (first | exact Below.refl _ _ | refine Ext.al ?_ _ | refine Ext.dr ?_ | refine Ext.drN ?_ _ | refine Ext.gr ?_ _ | refine Ext.set ?_ (by simp) _ | (refine Ext.trans' ?_ (by assumption))))) hb1 : Ext w W1)
    have HSh := Lib.hid hsh
    clear hb1 hsh
    go_wp2_with fail
    refine (least_any h _ V.out F (by omega) b r _ HSh.out).mono ?_
    rintro e W2 ⟨rfl, hb2, hwy⟩
    have HE2 := Lib.hid (HE1.out.trans' hb2)
    have HW := Lib.hid hwy
    clear hb2 hwy
    cases hok : (leastM h F).2
    · have he : wayErr h F T = 5 := by simp only [wayErr, ho, Int.toNat_natCast, hok]; simp
      have HX := Lib.hid he
      clear he
      go_wp2_with fail
      refine bodyPost_ret (v := .tuple #[.slice none 0 0, .int .i64 5]) (by simp [results, Try.results30, go_sem]) rfl ?_
      exact ⟨.slice none 0 0, [], by rw [HX.out], HE2.out, IsStps.nil _, fun e => by rw [HX.out] at e; omega, fun _ => rfl⟩
    · have he : wayErr h F T = 0 := by simp only [wayErr, ho, Int.toNat_natCast, hok]; simp
      obtain ⟨K, hK, hch⟩ := HM.out he
      have HX := Lib.hid he
      have HCH := Lib.hid hch
      clear he hch
      go_wp2_with fail
      refine (way_any (leastM h F).1 F T K hK HCH.out _ _ HW.out).mono ?_
      rintro e W3 ⟨v3, rfl, hb3, hst⟩
      have HE3 := Lib.hid (HE2.out.trans' hb3)
      have HST := Lib.hid hst
      clear hb3 hst
      go_wp2_with fail
      refine bodyPost_ret (v := .tuple #[v3, .int .i64 0]) (by simp [results, Try.results30, go_sem]) rfl ?_
      exact ⟨v3, _, by rw [HX.out], HE3.out, HST.out, fun _ => ⟨K, hK, HCH.out, rfl⟩, fun e => absurd HX.out e⟩
  · have ho' : (openE h [f, t] == 0) = false := by simpa using ho
    have he : wayErr h f t = openE h [f, t] := by simp [wayErr, ho]
    have HX := Lib.hid he
    have HO := Lib.hid ho
    clear he
    go_enter Try.func30, Try.ntmps30
    go_wp2_with fail
    refine (open_bad h (.slice ca h.cs.length ccap) _ [f, t] _ (HS.out.ext (by repeat (first | exact Below.refl _ _ | refine Ext.al ?_ _ | refine Ext.dr ?_ | refine Ext.drN ?_ _ | refine Ext.gr ?_ _ | refine Ext.set ?_ (by simp) _ | (refine Ext.trans' ?_ (by assumption))))) (isInts_two (by omega) (by omega) (by simp [go_sem]) (by simp [go_sem])) HO.out).mono ?_
    rintro e W1 ⟨rfl, hb1⟩
    have HE1 := Lib.hid (Ext.trans' (by exact (by repeat (first | exact Below.refl _ _ | refine Ext.al ?_ _ | refine Ext.dr ?_ | refine Ext.drN ?_ _ | refine Ext.gr ?_ _ | refine Ext.set ?_ (by simp) _ | (refine Ext.trans' ?_ (by assumption))))) hb1 : Ext w W1)
    clear hb1
    go_wp2_with fail
    refine bodyPost_ret (v := .tuple #[.slice none 0 0, .int .i64 (openE h [f, t])]) (by simp [results, Try.results30, go_sem]) rfl ?_
    exact ⟨.slice none 0 0, [], by rw [HX.out], HE1.out, IsStps.nil _, fun e => absurd (HX.out.symm.trans e) HO.out, fun _ => rfl⟩

set_option maxRecDepth 100000 in
set_option maxHeartbeats 2000000 in
theorem ringP_any (h : Hall) (sv : Value) (w : World) (hs : IsCnts w sv h.cs) (hM : ringErr h = 0 → RingOk (leastM h 0).1) :
    Calls Try.prog 36 #[.agg #[.int .i64 h.n, .int .i64 h.most, sv]] w fun e w' =>
      ∃ v l, e = .returned (.tuple #[v, .int .i64 (ringErr h)]) ∧ Ext w w' ∧ IsStps w' v l ∧ (ringErr h = 0 → ∃ K, K ≤ 1000 ∧ Chain (leastM h 0).1 (ringAt (leastM h 0).1) K ((leastM h 0).1.before (ringAt (leastM h 0).1)).toNat ∧ l = (ringBack (leastM h 0).1 K).reverse) ∧ (ringErr h ≠ 0 → l = []) := by
  obtain ⟨ca, ccap, rfl, hm1, hm2, -⟩ := hs.spec
  have HS := Lib.hid hs
  have HM := Lib.hid hM
  clear hs hM
  by_cases hc : chk h = 0
  · have V := Lib.hid (valid_of_chk hc)
    have n1 := V.out.n1
    go_enter Try.func36, Try.ntmps36
    go_wp2_with fail
    refine (open_ok h (.slice ca h.cs.length ccap) (.slice none 0 0) [] _ (HS.out.ext (by repeat (first | exact Below.refl _ _ | refine Ext.al ?_ _ | refine Ext.dr ?_ | refine Ext.drN ?_ _ | refine Ext.gr ?_ _ | refine Ext.set ?_ (by simp) _ | (refine Ext.trans' ?_ (by assumption))))) (IsInts.nil _ _) (by rw [openE_nil]; exact hc)).mono ?_
    rintro e W1 ⟨b, r, rfl, hb1, hsh⟩
    have HE1 := Lib.hid (Ext.trans' (by exact (by repeat (first | exact Below.refl _ _ | refine Ext.al ?_ _ | refine Ext.dr ?_ | refine Ext.drN ?_ _ | refine Ext.gr ?_ _ | refine Ext.set ?_ (by simp) _ | (refine Ext.trans' ?_ (by assumption))))) hb1 : Ext w W1)
    have HSh := Lib.hid hsh
    clear hb1 hsh
    go_wp2_with fail
    refine (least_any h _ V.out 0 (by omega) b r _ HSh.out).mono ?_
    rintro e W2 ⟨rfl, hb2, hwy⟩
    have HE2 := Lib.hid (HE1.out.trans' hb2)
    have HW := Lib.hid hwy
    clear hb2 hwy
    cases hok : (leastM h 0).2
    · have he : ringErr h = 0 := by simp only [ringErr, hc, hok]; simp
      obtain ⟨hin, hr0, hr1, K, hK, hch⟩ := HM.out he
      have HX := Lib.hid he
      have HCH := Lib.hid hch
      have HIN := Lib.hid hin
      clear he hch hin
      go_wp2_with fail
      refine (ring_any (leastM h 0).1 K hK HIN.out hr0 hr1 HCH.out _ _ HW.out).mono ?_
      rintro e W3 ⟨v3, rfl, hb3, hst⟩
      have HE3 := Lib.hid (HE2.out.trans' hb3)
      have HST := Lib.hid hst
      clear hb3 hst
      go_wp2_with fail
      refine bodyPost_ret (v := .tuple #[v3, .int .i64 0]) (by simp [results, Try.results36, go_sem]) rfl ?_
      exact ⟨v3, _, by rw [HX.out], HE3.out, HST.out, fun _ => ⟨K, hK, HCH.out, rfl⟩, fun e => absurd HX.out e⟩
    · have he : ringErr h = 11 := by simp only [ringErr, hc, hok]; simp
      have HX := Lib.hid he
      clear he
      go_wp2_with fail
      refine bodyPost_ret (v := .tuple #[.slice none 0 0, .int .i64 11]) (by simp [results, Try.results36, go_sem]) rfl ?_
      exact ⟨.slice none 0 0, [], by rw [HX.out], HE2.out, IsStps.nil _, fun e => by rw [HX.out] at e; omega, fun _ => rfl⟩
  · have hc' : (chk h == 0) = false := by simpa using hc
    have he : ringErr h = chk h := by simp [ringErr, hc]
    have HX := Lib.hid he
    have HC := Lib.hid hc
    clear he
    go_enter Try.func36, Try.ntmps36
    go_wp2_with fail
    refine (open_bad h (.slice ca h.cs.length ccap) (.slice none 0 0) [] _ (HS.out.ext (by repeat (first | exact Below.refl _ _ | refine Ext.al ?_ _ | refine Ext.dr ?_ | refine Ext.drN ?_ _ | refine Ext.gr ?_ _ | refine Ext.set ?_ (by simp) _ | (refine Ext.trans' ?_ (by assumption))))) (IsInts.nil _ _) (by rw [openE_nil]; exact HC.out)).mono ?_
    rintro e W1 ⟨rfl, hb1⟩
    rw [openE_nil]
    have HE1 := Lib.hid (Ext.trans' (by exact (by repeat (first | exact Below.refl _ _ | refine Ext.al ?_ _ | refine Ext.dr ?_ | refine Ext.drN ?_ _ | refine Ext.gr ?_ _ | refine Ext.set ?_ (by simp) _ | (refine Ext.trans' ?_ (by assumption))))) hb1 : Ext w W1)
    clear hb1
    go_wp2_with fail
    refine bodyPost_ret (v := .tuple #[.slice none 0 0, .int .i64 (chk h)]) (by simp [results, Try.results36, go_sem]) rfl ?_
    exact ⟨.slice none 0 0, [], by rw [HX.out], HE1.out, IsStps.nil _, fun e => absurd (HX.out.symm.trans e) HC.out, fun _ => rfl⟩
end Go.Proofs.Ytgcldgchhdjnhaa
namespace Go.Proofs.Ytgcldgchhdjnhaa
open Go.RowKit Go.Shelf

def upS (h : Hall) (k : Nat) : List Stp := (List.range k).flatMap (pairAt h)
theorem upS_succ (h : Hall) (k : Nat) : upS h (k + 1) = upS h k ++ pairAt h k := by simp [upS, List.range_succ]
theorem upS_len (h : Hall) (k : Nat) : (upS h k).length = 2 * k := by
  induction k with
  | zero => rfl
  | succ k ih => rw [upS_succ, List.length_append, ih, pairAt_len]; omega

set_option maxRecDepth 100000 in
set_option maxHeartbeats 2000000 in
theorem stepsR_any (h : Hall) (sv : Value) (v : Valid h) (w : World) (hs : IsCnts w sv h.cs) :
    Calls Try.prog 77 #[.agg #[.int .i64 h.n, .int .i64 h.most, sv]] w fun e w' => ∃ lv, e = .returned lv ∧ Ext w w' ∧ IsStps w' lv (stps h) := by
  obtain ⟨ca, ccap, rfl, hm1, hm2, -⟩ := hs.spec
  have n1 := v.n1
  have n10 := v.n10
  have hl10 := v.len
  obtain ⟨N, hN⟩ : ∃ N : Nat, h.n = N := ⟨h.n.toNat, by omega⟩
  have HN := Lib.hid hN
  have hst : stps h = upS h (N + h.cs.length) := by unfold stps upS; rw [hN]; simp
  have HST := Lib.hid hst
  rw [hN] at n1 n10 ⊢
  clear hs v hN hst
  go_enter Try.func77, Try.ntmps77
  go_wp2_with fail
  obtain ⟨w0, hw0⟩ : ∃ w0 : World, w0 = w.alloc (.cells #[.int .i64 (N : Int), .int .i64 h.most, .slice ca h.cs.length ccap] 24) := ⟨_, rfl⟩
  have k0 : w0.cell? ⟨w.heap.size, 0, none⟩ = some (.int .i64 N) := by rw [hw0]; simp [go_sem]
  have k2 : w0.cell? ⟨w.heap.size, 2, none⟩ = some (.slice ca h.cs.length ccap) := by rw [hw0]; simp [go_sem]
  have hE0 : Ext w w0 := by rw [hw0]; exact (by repeat (first | exact Below.refl _ _ | refine Ext.al ?_ _ | refine Ext.dr ?_ | refine Ext.drN ?_ _ | refine Ext.gr ?_ _ | refine Ext.set ?_ (by simp) _ | (refine Ext.trans' ?_ (by assumption))))
  have HE0 := Lib.hid hE0
  rw [← hw0]
  have K0 := Lib.hid k0
  have K2 := Lib.hid k2
  clear hw0 hE0 k0 k2
  go_loopw [3, 4] (fun v i W => ∃ k : Nat, k ≤ N ∧ i = .int .i64 k ∧ Ext w0 W ∧ Owns W w0.heap.size 89 3 v (sRows (upS h k))) (fun _ i _ => N - (intOf i).toNat)
  case atStart => exact ⟨0, by omega, rfl, Below.refl _ _, Owns.nil _ _ _ _⟩
  case round =>
    obtain ⟨k, hk, rfl, hE, hown⟩ := hrel
    have HE := Lib.hid hE
    have HO := Lib.hid hown
    have hz := hE.size
    by_cases hlt : k < N
    · have k0 := cell_ext hE K0.out
      have hrl : (sRows (upS h k)).length = 2 * k := by simp [sRows, upS_len]
      have hpair : pairAt h k = [⟨true, k, false⟩, ⟨true, k, true⟩] := by unfold pairAt; rw [if_pos (by have := HN.out; omega)]
      have HRL := Lib.hid hrl
      have HP := Lib.hid hpair
      clear hE hown hrl hpair
      go_wp2_with (at_builtin; refine wpOwn rfl (.tmp 12) (.tmp 17) elStp rfl w0.heap.size rfl (HO.out.ext (by exact (by repeat (first | exact Below.refl _ _ | refine Ext.al ?_ _ | refine Ext.dr ?_ | refine Ext.drN ?_ _ | refine Ext.gr ?_ _ | refine Ext.set ?_ (by simp) _ | (refine Ext.trans' ?_ (by assumption)))))) wr.heap.size 0 2 (sRows [⟨true, k, false⟩, ⟨true, k, true⟩]) rfl sRows_len ?c1 (by simp [sRows, Stp.cells, Value.oneCell']) (by rw [HRL.out]; simp [sRows]; omega) (by simp; omega) ?_)
      case c1 =>
        intro i hi j hj
        have hj3 : j < 3 := by rw [sRows_len _ (List.getElem_mem hi)] at hj; exact hj
        match i, hi, j, hj3, hj with
        | 0, _, 0, _, _ => simp [go_sem, sRows, Stp.cells]
        | 0, _, 1, _, _ => simp [go_sem, sRows, Stp.cells]
        | 0, _, 2, _, _ => simp [go_sem, sRows, Stp.cells]
        | 1, _, 0, _, _ => simp [go_sem, sRows, Stp.cells]
        | 1, _, 1, _, _ => simp [go_sem, sRows, Stp.cells]
        | 1, _, 2, _, _ => simp [go_sem, sRows, Stp.cells]
        | n + 2, hi, _, _, _ => exact absurd (show n + 2 < 2 from hi) (by omega)
      intro v' w' hown' hb'
      have hEr : Ext w0 w' := HE.out.trans (Below.trans (by exact ((Below.refl _ _).alloc (by omega) _)) hb')
      have HEr := Lib.hid hEr
      have HO' := Lib.hid hown'
      clear hEr hown' hb' k0
      go_wp2_with fail
      go_roundw
      case rel =>
        refine ⟨k + 1, by omega, by go_num, HEr.out, ?_⟩
        rw [upS_succ, HP.out]
        have := HO'.out
        simpa [sRows] using this
      case measure => simp [intOf]; omega
    · obtain rfl : k = N := by omega
      have k0 := cell_ext hE K0.out
      have k2 := cell_ext hE K2.out
      have K2' := Lib.hid k2
      obtain ⟨w1, rfl⟩ : ∃ w1 : World, w1 = wr := ⟨_, rfl⟩
      clear hE hown k2
      go_wp2_with fail
      clear k0
      go_loopw [3, 5] (fun v i W => ∃ j : Nat, j ≤ h.cs.length ∧ i = .int .i64 j ∧ Ext w0 W ∧ w1.heap.size ≤ W.heap.size ∧ W.cell? ⟨w.heap.size, 2, none⟩ = some (.slice ca h.cs.length ccap) ∧ Owns W w0.heap.size 89 3 v (sRows (upS h (k + j)))) (fun _ i _ => h.cs.length - (intOf i).toNat)
      case atStart => exact ⟨0, by omega, rfl, HE.out, Nat.le_refl _, K2'.out, HO.out⟩
      case round =>
        obtain ⟨j, hj, rfl, hE, hz2, k2, hown⟩ := hrel
        have HE2 := Lib.hid hE
        have HO2 := Lib.hid hown
        have K22 := Lib.hid k2
        have hbk : w.heap.size < wr.heap.size := World.block_lt_of_cell? _ _ k2
        by_cases hltj : j < h.cs.length
        · have hrl : (sRows (upS h (k + j))).length = 2 * (k + j) := by simp [sRows, upS_len]
          have hpair : pairAt h (k + j) = [⟨false, j, false⟩, ⟨false, j, true⟩] := by
            unfold pairAt
            have := HN.out
            rw [if_neg (by omega)]
            have e : ((k + j : Nat) : Int) - h.n = j := by omega
            rw [e]
          have HRL := Lib.hid hrl
          have HP := Lib.hid hpair
          clear hE hown hrl hpair
          go_wp2_with (at_builtin; refine wpOwn rfl (.tmp 26) (.tmp 31) elStp rfl w0.heap.size rfl (HO2.out.ext (by exact (by repeat (first | exact Below.refl _ _ | refine Ext.al ?_ _ | refine Ext.dr ?_ | refine Ext.drN ?_ _ | refine Ext.gr ?_ _ | refine Ext.set ?_ (by simp) _ | (refine Ext.trans' ?_ (by assumption)))))) wr.heap.size 0 2 (sRows [⟨false, j, false⟩, ⟨false, j, true⟩]) rfl sRows_len ?c1 (by simp [sRows, Stp.cells, Value.oneCell']) (by rw [HRL.out]; simp [sRows]; omega) (by simp; omega) ?_)
          case c1 =>
            intro i hi j hj
            have hj3 : j < 3 := by rw [sRows_len _ (List.getElem_mem hi)] at hj; exact hj
            match i, hi, j, hj3, hj with
            | 0, _, 0, _, _ => simp [go_sem, sRows, Stp.cells]
            | 0, _, 1, _, _ => simp [go_sem, sRows, Stp.cells]
            | 0, _, 2, _, _ => simp [go_sem, sRows, Stp.cells]
            | 1, _, 0, _, _ => simp [go_sem, sRows, Stp.cells]
            | 1, _, 1, _, _ => simp [go_sem, sRows, Stp.cells]
            | 1, _, 2, _, _ => simp [go_sem, sRows, Stp.cells]
            | n + 2, hi, _, _, _ => exact absurd (show n + 2 < 2 from hi) (by omega)
          intro v' w' hown' hb'
          have hEr : Ext w0 w' := HE2.out.trans (Below.trans (by exact ((Below.refl _ _).alloc (by omega) _)) hb')
          have hw0k : w.heap.size < w0.heap.size := World.block_lt_of_cell? _ _ K2.out
          have hk2' : w'.cell? ⟨w.heap.size, 2, none⟩ = some (.slice ca h.cs.length ccap) := cell_ext hEr K2.out
          have hsz' : w1.heap.size ≤ w'.heap.size := by have := hb'.size; simp at this; omega
          have HEr := Lib.hid hEr
          have HO' := Lib.hid hown'
          have HK2' := Lib.hid hk2'
          clear hEr hown' hb' k2 hk2'
          go_wp2_with fail
          go_roundw
          case rel =>
            refine ⟨j + 1, by omega, by go_num, HEr.out, hsz', HK2'.out, ?_⟩
            rw [← Nat.add_assoc, upS_succ, HP.out]
            have := HO'.out
            simpa [sRows] using this
          case measure => simp [intOf]; omega
        · obtain rfl : j = h.cs.length := by omega
          clear hE hown
          go_wp2_with fail
          refine bodyPost_ret (v := _) (by simp [results, Try.results77, go_sem]; rfl) rfl ?_
          refine ⟨_, rfl, HE0.out.trans' HE2.out, ?_⟩
          rw [HST.out]
          exact HO2.out.isRows
end Go.Proofs.Ytgcldgchhdjnhaa
