/-
  The walks of way and ring: the steps back from a place, turned about.
-/
import Derived.Test.YtgcldgchhdjnhaaRev
import Derived.Test.YtgcldgchhdjnhaaOpen
namespace Go.Proofs.Ytgcldgchhdjnhaa
open Go.RowKit Go.Shelf

theorem elStp : El 39 89 3 := El.mk' (bytes := 24) (z := .agg #[.bool false, .int .i64 0, .bool false]) (by kernel_rfl) (by kernel_rfl) rfl (by omega) (by omega)
def sRows (l : List Stp) : List (List Value) := l.map Stp.cells
theorem sRows_len {l : List Stp} : ∀ r ∈ sRows l, r.length = 3 := by
  intro r hr
  obtain ⟨x, _, rfl⟩ := List.mem_map.1 hr
  rfl
/-- what is owned, as a block -/
theorem Owns.block {w : World} {B : Nat} {e : TypeId} {g cap : Nat} {l : List Stp} (h : Owns w B e 3 (.slice (some ⟨g, 0, none⟩) l.length cap) (sRows l)) :
    ∃ cur, w.heap[g]? = some (.cells cur e (0, 0)) ∧ StpsB cur l.length (fun i => l.getD i ⟨false, 0, false⟩) := by
  have hrl : (sRows l).length = l.length := by simp [sRows]
  obtain ⟨sa, cap', e1, _, _, h3⟩ := h.form
  rcases h.1.2 with ⟨e2, _⟩ | ⟨g', cap2, cur, e2, _, hg, hc, _, hs, _⟩
  · cases e2
  · simp only [Value.slice.injEq, Option.some.injEq, Addr.mk.injEq] at e2 e1
    obtain ⟨⟨rfl, _⟩, _, rfl⟩ := e2
    obtain ⟨rfl, _, rfl⟩ := e1
    refine ⟨cur, hg, ?_⟩
    rcases h3 with ⟨_, e3, _⟩ | ⟨g2, e3, _, _, hr, _⟩
    · cases e3
    · simp only [Option.some.injEq, Addr.mk.injEq] at e3
      obtain ⟨rfl, _⟩ := e3
      have hcell : ∀ i, (hi : i < l.length) → ∀ j, (hj : j < 3) → cur[i * 3 + j]? = some ((l.getD i ⟨false, 0, false⟩).cells[j]'(by simpa [Stp.cells] using hj)) := fun i hi j hj => by
        have := hr i (by rw [hrl]; exact hi) j (by simpa [sRows, Stp.cells] using hj)
        rw [cell_of_row _ _ _ _ _ _ hg, Nat.zero_add] at this
        rw [this]
        simp [sRows, List.getD, hi]
      refine ⟨by rw [hrl] at hc; have := Nat.mul_le_mul_right 3 hc; omega, fun i hi => ?_, fun i hi => ?_, fun i hi => ?_⟩
      · simpa [Stp.cells] using hcell i hi 0 (by omega)
      · simpa [Stp.cells] using hcell i hi 1 (by omega)
      · simpa [Stp.cells] using hcell i hi 2 (by omega)
theorem StpsB.isStps {w : World} {g n cap : Nat} {cur : Array Value} {T : TypeId} {f : Nat → Stp} {l : List Stp} (hb : StpsB cur n f) (hg : w.heap[g]? = some (.cells cur T (0, 0))) (hl : l.length = n) (hc : n ≤ cap) (hm : cap ≤ 9223372036854775807)
    (he : ∀ i, (h : i < l.length) → f i = l[i]) : IsStps w (.slice (some ⟨g, 0, none⟩) n cap) l := by
  subst hl
  refine IsStps.mk hc hm fun i hi => ?_
  rw [cell_of_row _ _ _ _ _ _ hg, cell_of_row _ _ _ _ _ _ hg, cell_of_row _ _ _ _ _ _ hg, Nat.zero_add]
  rw [← he i hi]
  exact ⟨hb.c0 i hi, hb.c1 i hi, hb.c2 i hi⟩
theorem kept_ext {w W W' : World} {g : Nat} (h : Ext w W) (hg : w.heap.size ≤ g) (k : Kept (fun j => j ≠ g) W W') : Ext w W' :=
  h.trans ⟨k.os, k.tape, k.output, k.size, fun j hj => k.same j (by have := h.size; omega) (by omega)⟩

set_option maxRecDepth 100000 in
set_option maxHeartbeats 2000000 in
theorem way_any (s : WSt) (start to K : Nat) (hK : K ≤ 1000) (hch : Chain s start K to) (b : Nat) (w : World) (hw : WaysAt w b s) :
    Calls Try.prog 76 #[.pointer (some ⟨b, 0, none⟩), .int .i64 start, .int .i64 to] w fun e w' =>
      ∃ v, e = .returned v ∧ Ext w w' ∧ IsStps w' v (backs s K to).reverse := by
  have HW := Lib.hid hw
  have hbw := hw.lt
  clear hw
  go_enter Try.func76, Try.ntmps76
  go_wp2_with fail
  go_loopw [7, 8] (fun v i W => ∃ (j at_ : Nat) (pre : List Stp), j ≤ K ∧ i = .int .i64 at_ ∧ Chain s start j at_ ∧ pre ++ backs s j at_ = backs s K to ∧ Ext w W ∧ Owns W w.heap.size 89 3 v (sRows pre)) (fun _ i _ => clen s start K (intOf i).toNat)
  case atStart => exact ⟨K, to, [], Nat.le_refl _, rfl, hch, rfl, Below.refl _ _, Owns.nil _ _ _ _⟩
  case round =>
    obtain ⟨j, at_, pre, hj, rfl, hc, hpre, hE, hown⟩ := hrel
    have HE := Lib.hid hE
    have HO := Lib.hid hown
    have HC := Lib.hid hc
    have HP := Lib.hid hpre
    have hpl : pre.length + j = K := by
      have := congrArg List.length hpre
      simpa [backs_len] using this
    have hcl := clen_chain hc hj
    have HCL := Lib.hid hcl
    have hz := hE.size
    clear hcl
    cases j with
    | succ j =>
      obtain ⟨q1, q2, q3, q4, q5⟩ := hc
      have HQ5 := Lib.hid q5
      have hne : ((at_ : Int) == (start : Int)) = false := by simp; omega
      have e0 := (HW.out.ext hE).b0 (i := at_) q2
      have e1 := (HW.out.ext hE).b1 (i := at_) q2
      have e2 := (HW.out.ext hE).b2 (i := at_) q2
      have eb := (HW.out.ext hE).befo (i := at_) q2
      have EB := Lib.hid eb
      have hbw' : b < wr.heap.size := by omega
      have hi11 : (at_ : Int) < 11 := by omega
      obtain ⟨va, vcap, rfl, hv1, hv2, hv3⟩ := hown.form
      have hrl : (sRows pre).length = pre.length := by simp [sRows]
      rw [hrl] at hv1 ⊢
      have HRL := Lib.hid hrl
      have hold : Hid ((va = none ∧ sRows pre = [] ∧ pre.length = 0) ∨ ∃ b off, va = some ⟨b, off, none⟩ ∧ RowsAt wr 3 b off (sRows pre)) := by
        refine Lib.hid ?_
        rcases hv3 with ⟨h1, h2, _⟩ | ⟨g, h1, _, _, h2, _⟩
        · exact .inl ⟨h2, h1, by rw [← hrl, h1]; rfl⟩
        · exact .inr ⟨g, 0, h1, h2⟩
      clear hpre hE hown q5 eb hrl hv3
      go_wp2_with fail
      go_region_law (refine stepGrow rfl (.tmp 24) (.tmp 31) elStp rfl va pre.length (rows := sRows pre) (by rw [HRL.out]; rfl) sRows_len (hold.out.imp id fun ⟨b, off, h1, h2⟩ => ⟨b, off, h1, h2.ext (by exact (by repeat (first | exact Below.refl _ _ | refine Ext.al ?_ _ | refine Ext.dr ?_ | refine Ext.drN ?_ _ | refine Ext.gr ?_ _ | refine Ext.set ?_ (by simp) _ | (refine Ext.trans' ?_ (by assumption)))))⟩) wr.heap.size 0 1 [(s.by_ at_).cells] rfl (by simp [Stp.cells]) (rowsAt_one (fun j hj => by
          have hj3 : j < 3 := by simpa [Stp.cells] using hj
          match j, hj3 with
          | 0, _ => simp [go_sem, Stp.cells]
          | 1, _ => simp [go_sem, Stp.cells]
          | 2, _ => simp [go_sem, Stp.cells])) (by simp [Stp.cells, Value.oneCell']) (by rw [HRL.out]; simp) (by rw [HRL.out]; simp; omega) ?_; intro v' w' hown' hb')
      have hEr : Ext wr w' := Ext.trans' (by exact (by repeat (first | exact Below.refl _ _ | refine Ext.al ?_ _ | refine Ext.dr ?_ | refine Ext.drN ?_ _ | refine Ext.gr ?_ _ | refine Ext.set ?_ (by simp) _ | (refine Ext.trans' ?_ (by assumption))))) hb'
      have hs' := hEr.size
      have HEr := Lib.hid hEr
      have HO' := Lib.hid hown'
      have eb := cell_ext hEr EB.out
      clear hEr hown' hb' e0 e1 e2 hne
      go_wp2_with fail
      go_roundw
      case rel =>
        refine ⟨j, (s.before at_).toNat, pre ++ [s.by_ at_], by omega, by congr 1; omega, HQ5.out, ?_, HE.out.trans' HEr.out, ?_⟩
        · rw [← HP.out]; simp [backs]
        · have := HO'.out.base (B' := w.heap.size) (by simp; omega)
          simpa [sRows] using this
      case measure =>
        have hm := clen_chain HQ5.out (F := K) (by omega)
        have e : intOf (.int .i64 (s.before at_)) = s.before at_ := rfl
        have e2 : intOf (.int .i64 (at_ : Int)) = at_ := rfl
        simp only [e, e2, Int.toNat_natCast, HCL.out, hm]
        omega
    | zero =>
      obtain rfl : at_ = start := hc
      have hne : ((at_ : Int) == (at_ : Int)) = true := by simp
      obtain ⟨va, vcap, rfl, hv1, hv2, hv3⟩ := hown.form
      have hpk : pre = backs s K to := by rw [← HP.out]; simp [backs]
      rcases hv3 with ⟨h1, rfl, rfl⟩ | ⟨g, rfl, hg1, hg2, _, _⟩
      · have hp0 : pre = [] := by
          cases pre with
          | nil => rfl
          | cons x l => cases h1
        subst hp0
        simp only [sRows, List.map_nil, List.length_nil]
        have HPK := Lib.hid hpk
        clear hpk hpre hown hE h1
        go_wp2_with fail
        refine (rev_nil wr).mono ?_
        rintro e W' ⟨rfl, hb'⟩
        go_wp2_with fail
        refine bodyPost_ret (v := .slice none 0 0) (by simp [results, Try.results76, go_sem]) rfl ?_
        exact ⟨_, rfl, HE.out.trans' hb', by rw [← HPK.out]; exact IsStps.nil _⟩
      · have hrl : (sRows pre).length = pre.length := by simp [sRows]
        rw [hrl] at hown hv1 ⊢
        obtain ⟨cur, hcur, hB⟩ := hown.block
        have HCUR := Lib.hid hcur
        have HBB := Lib.hid hB
        have HPK := Lib.hid hpk
        clear hpk hpre hown hcur hB hE
        go_wp2_with fail
        refine (rev_any g pre.length vcap (fun i => pre.getD i ⟨false, 0, false⟩) cur _ (by omega) wr HCUR.out HBB.out).mono ?_
        rintro e W' ⟨rfl, hk', cur', hc', hb'⟩
        have HK' := Lib.hid hk'
        have HC' := Lib.hid hc'
        have HB' := Lib.hid hb'
        clear hk' hc' hb'
        go_wp2_with fail
        refine bodyPost_ret (v := .slice (some ⟨g, 0, none⟩) pre.length vcap) (by simp [results, Try.results76, go_sem]) rfl ?_
        refine ⟨_, rfl, kept_ext HE.out hg1 HK'.out, ?_⟩
        rw [← HPK.out]
        refine HB'.out.isStps HC'.out (by simp) hv1 hv2 fun i hi => ?_
        have hi' : i < pre.length := by simpa using hi
        simp [List.getD, show pre.length - 1 - i < pre.length by omega]
end Go.Proofs.Ytgcldgchhdjnhaa
