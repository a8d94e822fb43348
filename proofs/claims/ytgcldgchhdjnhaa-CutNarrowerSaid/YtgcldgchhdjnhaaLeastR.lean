/-
  The least sums, as the reference reckons them, in rounds: plain. And lists of numbers in a block.
  The walk of the reference's Least.
-/
import Derived.Test.YtgcldgchhdjnhaaTruth
import Derived.Test.YtgcldgchhdjnhaaWay
import Derived.Test.YtgcldgchhdjnhaaFollowR
namespace Go.Proofs.Ytgcldgchhdjnhaa
open Go.RowKit Go.Shelf

/-- numbers in a block, from its head on -/
def BlkI (W : World) (g : Nat) (l : List Int) : Prop := ∃ cur, W.heap[g]? = some (.cells cur 2 (0, 0)) ∧ l.length ≤ cur.size ∧ ∀ i, (h : i < l.length) → cur[i]? = some (.int .i64 l[i])
section
variable {W : World} {g : Nat} {l : List Int} (b : BlkI W g l)
include b
theorem BlkI.lt : g < W.heap.size := by obtain ⟨cur, h, _⟩ := b; exact (Array.getElem?_eq_some_iff.1 h).1
theorem BlkI.cell {i : Nat} (hi : i < l.length) : W.cell? ⟨g, i, none⟩ = some (.int .i64 l[i]) := by
  obtain ⟨cur, h1, _, h3⟩ := b
  rw [cell_of_row _ _ _ _ _ _ h1]; exact h3 i hi
theorem BlkI.free (o : Nat) : W.frozen? ⟨g, o, none⟩ = false := by
  obtain ⟨cur, h1, _⟩ := b
  simp [World.frozen?, h1]
theorem BlkI.of_heap {W' : World} (e : W'.heap[g]? = W.heap[g]?) : BlkI W' g l := by
  obtain ⟨cur, h1, h2⟩ := b
  exact ⟨cur, e.trans h1, h2⟩
theorem BlkI.ext {W' : World} (e : Ext W W') : BlkI W' g l := b.of_heap (e.block _ b.lt)
theorem BlkI.set {i : Nat} (hi : i < l.length) (v : Int) : BlkI (W.setCell ⟨g, i, none⟩ (.int .i64 v)) g (l.set i v) := by
  obtain ⟨cur, h1, h2, h3⟩ := b
  refine ⟨_, heap_setCell_row h1 _ _, by simpa using h2, fun j hj => ?_⟩
  have hj' : j < l.length := by simpa using hj
  rw [List.getElem_set]
  by_cases e : i = j
  · subst e; rw [set_on _ (by omega), if_pos rfl]
  · rw [set_off _ e, if_neg e]; exact h3 j hj'
theorem BlkI.other {o b' : Nat} (hne : b' ≠ g) (v : Value) : BlkI (W.setCell ⟨b', o, none⟩ v) g l := by
  refine b.of_heap ?_
  simp only [World.setCell, Array.getElem?_modify]
  rw [if_neg hne]
theorem BlkI.rows : RowsAt W 1 g 0 (l.map iRow) := fun i hi j hj => by
  have hj0 : j = 0 := by simp [iRow] at hj; omega
  subst hj0
  have hi' : i < l.length := by simpa using hi
  have := b.cell hi'
  simpa [iRow] using this
end
theorem Owns.blkI {W : World} {B g n cap : Nat} {l : List Int} (h : Owns W B 2 1 (.slice (some ⟨g, 0, none⟩) n cap) (l.map iRow)) (hn : n = l.length) : BlkI W g l := by
  subst hn
  have hrl : (l.map iRow).length = l.length := by simp
  obtain ⟨sa, cap', e1, _, _, h3⟩ := h.form
  rcases h.1.2 with ⟨e2, _⟩ | ⟨g', cap2, cur, e2, _, hg, hc, _, hs, _⟩
  · cases e2
  · simp only [Value.slice.injEq, Option.some.injEq, Addr.mk.injEq] at e2 e1
    obtain ⟨⟨rfl, _⟩, _, rfl⟩ := e2
    obtain ⟨rfl, _, rfl⟩ := e1
    refine ⟨cur, hg, by omega, fun i hi => ?_⟩
    rcases h3 with ⟨_, e3, _⟩ | ⟨g2, e3, _, _, hr, _⟩
    · cases e3
    · simp only [Option.some.injEq, Addr.mk.injEq] at e3
      obtain ⟨rfl, _⟩ := e3
      have := hr i (by rw [hrl]; exact hi) 0 (by simp [iRow])
      rw [cell_of_row _ _ _ _ _ _ hg] at this
      simpa [iRow] using this
theorem BlkI.isInts {W : World} {g cap n : Nat} {l : List Int} (b : BlkI W g l) (hn : n = l.length) (h1 : n ≤ cap) (h2 : cap ≤ 9223372036854775807) : IsInts W .i64 (.slice (some ⟨g, 0, none⟩) n cap) l := by
  subst hn
  exact IsInts.mk h1 h2 fun i hi => by rw [Nat.zero_add]; exact b.cell hi
end Go.Proofs.Ytgcldgchhdjnhaa
namespace Go.Proofs.Ytgcldgchhdjnhaa
open Go.RowKit Go.Shelf

theorem getElem_set_same {l : List Int} {i : Nat} (h : i < l.length) (v : Int) : (l.set i v)[i]'(by simpa using h) = v := by simp

set_option maxRecDepth 100000 in
set_option maxHeartbeats 4000000 in
theorem leastR_any (h : Hall) (sv : Value) (v : Valid h) (start : Nat) (hst : (start : Int) ≤ h.n) (w : World) (hs : IsCnts w sv h.cs) :
    Calls Try.prog 32 #[.agg #[.int .i64 h.n, .int .i64 h.most, sv], .int .i64 start] w fun e w' =>
      ∃ lv, e = .returned (.tuple #[lv, .bool (leastR h start).2]) ∧ Ext w w' ∧ IsInts w' .i64 lv (leastR h start).1 := by
  obtain ⟨ca, ccap, rfl, hm1, hm2, -⟩ := hs.spec
  have HS := Lib.hid hs
  have V := Lib.hid v
  have n1 := v.n1
  have n10 := v.n10
  have hl10 := v.len
  obtain ⟨N, hN⟩ : ∃ N : Nat, h.n = N := ⟨h.n.toNat, by omega⟩
  have HN := Lib.hid hN
  rw [hN] at n1 n10 hst
  have hini : jini h start = (List.replicate (N + 1) nowh).set start 0 := by unfold jini; rw [hN]; rfl
  have hlr : leastR h start = jrun h (N + 2) (jini h start) := by unfold leastR; rw [hN]; rfl
  have HINI := Lib.hid hini
  have HLR := Lib.hid hlr
  have HARG : Hid (∀ W, Ext w W → IsCnts W (.slice ca h.cs.length ccap) h.cs) := Lib.hid fun W hW => hs.ext hW
  rw [hN]
  clear hs v hini hlr hN
  go_enter Try.func32, Try.ntmps32
  go_wp2_with fail
  obtain ⟨w0, hw0⟩ : ∃ w0 : World, w0 = w.alloc (.cells #[.int .i64 (N : Int), .int .i64 h.most, .slice ca h.cs.length ccap] 24) := ⟨_, rfl⟩
  have k0 : w0.cell? ⟨w.heap.size, 0, none⟩ = some (.int .i64 N) := by rw [hw0]; simp [go_sem]
  have k1 : w0.cell? ⟨w.heap.size, 1, none⟩ = some (.int .i64 h.most) := by rw [hw0]; simp [go_sem]
  have k2 : w0.cell? ⟨w.heap.size, 2, none⟩ = some (.slice ca h.cs.length ccap) := by rw [hw0]; simp [go_sem]
  have hE0 : Ext w w0 := by rw [hw0]; exact (by repeat (first | exact Below.refl _ _ | refine Ext.al ?_ _ | refine Ext.dr ?_ | refine Ext.drN ?_ _ | refine Ext.gr ?_ _ | refine Ext.set ?_ (by simp) _ | (refine Ext.trans' ?_ (by assumption))))
  have HE0 := Lib.hid hE0
  rw [← hw0]
  have K0 := Lib.hid k0
  have K1 := Lib.hid k1
  have K2 := Lib.hid k2
  have hb0 : w.heap.size < w0.heap.size := World.block_lt_of_cell? _ _ k0
  clear hw0 hE0 k0 k1 k2
  go_loopw [6, 7] (fun v i W => ∃ k : Nat, k ≤ N + 1 ∧ i = .int .i64 k ∧ Ext w0 W ∧ Owns W w0.heap.size 2 1 v ((List.replicate k nowh).map iRow)) (fun _ i _ => N + 1 - (intOf i).toNat)
  case atStart => exact ⟨0, by omega, rfl, Below.refl _ _, Owns.nil _ _ _ _⟩
  case round =>
    obtain ⟨k, hk, rfl, hE, hown⟩ := hrel
    have HE := Lib.hid hE
    have HO := Lib.hid hown
    have hz := hE.size
    have k0 := cell_ext hE K0.out
    by_cases hlt : k < N + 1
    · clear hE hown
      go_wp2_with (at_builtin; refine wpOwn rfl (.tmp 23) (.tmp 24) elI64 rfl w0.heap.size rfl (HO.out.ext (by exact (by repeat (first | exact Below.refl _ _ | refine Ext.al ?_ _ | refine Ext.dr ?_ | refine Ext.drN ?_ _ | refine Ext.gr ?_ _ | refine Ext.set ?_ (by simp) _ | (refine Ext.trans' ?_ (by assumption)))))) wr.heap.size 0 1 [iRow 1099511627776] rfl (by simp [iRow]) (rowsAt_one (fun j hj => by
          have hj0 : j = 0 := by simp [iRow] at hj; omega
          subst hj0
          simp [go_sem, iRow])) (by simp [iRow, Value.oneCell']) (by simp; omega) (by simp; omega) ?_)
      intro v' w' hown' hb'
      have hEr : Ext w0 w' := HE.out.trans (Below.trans (by exact ((Below.refl _ _).alloc (by omega) _)) hb')
      have HEr := Lib.hid hEr
      have HO' := Lib.hid hown'
      clear hEr hown' hb' k0
      go_wp2_with fail
      go_roundw
      case rel =>
        refine ⟨k + 1, by omega, by go_num, HEr.out, ?_⟩
        have := HO'.out
        simpa [List.replicate_succ', nowh] using this
      case measure => simp [intOf]; omega
    · obtain rfl : k = N + 1 := by omega
      obtain ⟨va, vcap, rfl, hv1, hv2, hv3⟩ := hown.form
      have hrl : ((List.replicate (N + 1) nowh).map iRow).length = N + 1 := by simp
      rcases hv3 with ⟨h1, _⟩ | ⟨g, rfl, hg1, hg2, _, _⟩
      · exfalso
        have : ((List.replicate (N + 1) nowh).map iRow).length = 0 := by rw [h1]; rfl
        omega
      rw [hrl] at hown hv1 ⊢
      have hblk := hown.blkI (by simp)
      have hc : wr.cell? ⟨g, start, none⟩ = some (.int .i64 nowh) := by have := hblk.cell (i := start) (by simp; omega); simpa using this
      have hf := hblk.free start
      have hb2 := hblk.set (i := start) (by simp; omega) 0
      have HB2 := Lib.hid hb2
      have hE2 : Ext w0 (wr.setCell ⟨g, start, none⟩ (.int .i64 0)) := Below.setCell hE hg1 _
      have HE2 := Lib.hid hE2
      clear hE hown hblk hb2 hE2 hrl k0
      have hsl : (start : Int) < (N : Int) + 1 := by omega
      have k0 := cell_ext HE2.out K0.out
      have k1 := cell_ext HE2.out K1.out
      have k2 := cell_ext HE2.out K2.out
      have k0' := cell_ext HE.out K0.out
      have k1' := cell_ext HE.out K1.out
      have k2' := cell_ext HE.out K2.out
      have hgw : ¬ w.heap.size = g := by omega
      have hgw' : ¬ g = w.heap.size := by omega
      go_wp2_with fail
      have HEW1 := Lib.hid (HE0.out.trans' HE2.out)
      have HG := Lib.hid hg1
      generalize wr.setCell ⟨g, start, none⟩ (.int .i64 0) = w1 at *
      have hcall := stepsR_any h _ V.out w1 (HARG.out _ HEW1.out)
      rw [HN.out] at hcall
      refine hcall.mono ?_
      clear hcall
      rintro e W3 ⟨lv, rfl, hb3, hlv⟩
      obtain ⟨la, lcap, rfl, hlc1, hlc2, -⟩ := hlv.spec
      have HLV := Lib.hid hlv
      have HB3 := Lib.hid (HB2.out.ext hb3)
      have HE3 := Lib.hid (HE2.out.trans' hb3)
      have hML : (stps h).length ≤ 40 := by
        unfold stps
        have := upS_len h (h.n.toNat + h.cs.length)
        unfold upS at this
        rw [this]
        have := HN.out
        omega
      have HMOK := Lib.hid (stps_ok V.out)
      obtain ⟨M, hMdef⟩ : ∃ M, M = stps h := ⟨_, rfl⟩
      have HMD := Lib.hid hMdef
      rw [← hMdef] at hML hlc1 HLV ⊢
      have hg3 : g < W3.heap.size := HB3.out.lt
      clear hb3 hlv hMdef k0 k1 k2 k0' k1' k2' hc hf hgw hgw' hsl
      go_wp2_with fail
      go_loopw [6, 9, 10] (fun o sm rd W => ∃ (t gO cO : Nat) (l : List Int) (b : Bool), t ≤ N + 2 ∧ rd = .int .i64 t ∧ sm = .bool b ∧ o = .slice (some ⟨gO, 0, none⟩) (N + 1) cO ∧ N + 1 ≤ cO ∧ cO ≤ 9223372036854775807 ∧ l.length = N + 1 ∧ BlkI W gO l ∧ Ext W3 W ∧ JB t l ∧ (b = true → leastR h start = (l, true)) ∧ (b = false → jrun h (N + 2 - t) l = leastR h start))
        (fun _ _ i _ => N + 2 - (intOf i).toNat)
      case atStart =>
        refine ⟨0, g, vcap, jini h start, false, by omega, rfl, rfl, rfl, hv1, hv2, by rw [HINI.out]; simp, by rw [HINI.out]; exact HB3.out, Below.refl _ _, ?_, by simp, fun _ => HLR.out.symm⟩
        intro x hx
        rw [HINI.out] at hx
        rcases List.mem_or_eq_of_mem_set hx with hx | hx
        · left; simpa using hx
        · right; omega
      case round =>
        obtain ⟨t, gO, cO, l, b, ht, rfl, rfl, rfl, hc1, hc2, hll, hblk, hE, hjb, hb1, hb2⟩ := hrel
        obtain ⟨w4, rfl⟩ : ∃ w4 : World, w4 = wr := ⟨_, rfl⟩
        have HE4 := Lib.hid hE
        have HBLK := Lib.hid hblk
        have HJB := Lib.hid hjb
        have HR1 := Lib.hid hb1
        have HR2 := Lib.hid hb2
        have k0 := cell_ext (HE3.out.trans' hE) K0.out
        have hgO := hblk.lt
        have hz3 := hE.size
        by_cases hgo : t ≤ N + 1 ∧ b = false
        · obtain ⟨ht1, rfl⟩ := hgo
          have hrl : (l.map iRow).length = N + 1 := by simp [hll]
          have HRL := Lib.hid hrl
          have HLL := Lib.hid hll
          clear hblk hE hjb hb1 hb2 hrl hll
          go_wp2_with (at_builtin; refine wpOwn rfl (.tmp 42) (.tmp 43) elI64 rfl w4.heap.size (v := .slice (some ⟨w4.heap.size, 0, none⟩) 0 0) (rows := []) rfl ⟨World.ownsRow_made _ _ _ (Nat.le_refl _) (by simp [maxLen]) rfl, by simp⟩ gO 0 cO (l.map iRow) (by rw [HRL.out]; rfl) (by simp [iRow]) (HBLK.out.ext (by exact (by repeat (first | exact Below.refl _ _ | refine Ext.al ?_ _ | refine Ext.dr ?_ | refine Ext.drN ?_ _ | refine Ext.gr ?_ _ | refine Ext.set ?_ (by simp) _ | (refine Ext.trans' ?_ (by assumption)))))).rows (by simp [iRow, Value.oneCell']) (by rw [HRL.out]; simp; omega) (by simp) ?_)
          intro v' w' hown' hb'
          obtain ⟨sN, cN, rfl, hn1, hn2, hn3⟩ := hown'.form
          rcases hn3 with ⟨h1, _⟩ | ⟨gN, rfl, hgN1, hgN2, _, _⟩
          · exfalso
            have : (l.map iRow).length = 0 := by rw [h1]; rfl
            rw [HRL.out] at this
            omega
          have hblkN : BlkI w' gN l := hown'.blkI (by rw [HRL.out, HLL.out])
          rw [HRL.out] at hn1 ⊢
          have hEr : Ext w4 w' := Below.trans (by exact ((Below.refl _ _).alloc (Nat.le_refl _) _)) hb'
          have HEr := Lib.hid hEr
          have HBN := Lib.hid hblkN
          have hzr := hEr.size
          clear hown' hb' hEr hblkN k0
          have hjf : ∀ k, jfold h l (M.take k) = (M.take k).foldl (jstep h l) l := fun _ => rfl
          go_wp2_with fail
          go_loopw [12] (fun i W => ∃ (j : Nat) (nx : List Int), j ≤ M.length ∧ i = .int .i64 j ∧ nx = jfold h l (M.take j) ∧ nx.length = N + 1 ∧ BlkI W gN nx ∧ JB (t + 1) nx ∧ Ext w4 W ∧ gN < W.heap.size) (fun i _ => M.length - (intOf i).toNat)
          case atStart => exact ⟨0, l, by omega, rfl, by simp [jfold], HLL.out, HBN.out, HJB.out.mono (by omega), HEr.out, hgN2⟩
          case round =>
            obtain ⟨j, nx, hj, rfl, hnx, hnl, hblkN, hjbn, hE5, hgl⟩ := hrel
            have HNX := Lib.hid hnx
            have HNL := Lib.hid hnl
            have HBN5 := Lib.hid hblkN
            have HJN := Lib.hid hjbn
            have HE5 := Lib.hid hE5
            have HX5 := Lib.hid (HE4.out.trans' hE5)
            have hz5 := hE5.size
            by_cases hltj : j < M.length
            · rcases (HLV.out.ext (HE4.out.trans' hE5)).opened with e | ⟨lb, loff, rfl, hlc⟩
              · simp [e] at hltj
              obtain ⟨m0, m1, m2⟩ := hlc j hltj
              have hok := HMOK.out M[j] (by rw [← HMD.out]; exact List.getElem_mem hltj)
              have hin := src_in V.out hok
              have hcb := cost_bd V.out hok
              have hAA := HE3.out.trans' HX5.out
              have k0 := cell_ext hAA K0.out
              have k1 := cell_ext hAA K1.out
              have k2 := cell_ext hAA K2.out
              have hbl := World.block_lt_of_cell? _ _ m0
              have hbk := World.block_lt_of_cell? _ _ k0
              simp only at hbl hbk
              have HOK := Lib.hid hok
              have HIN := Lib.hid hin
              have HAA := Lib.hid (HE0.out.trans' hAA)
              have hends := fun g => endsR_any h _ M[j] (grow wr g) V.out HOK.out ((HARG.out _ HAA.out).ext (grow_below _ g))
              rw [HN.out] at hends
              obtain ⟨a, ha⟩ : ∃ a : Nat, src h M[j] = a := ⟨(src h M[j]).toNat, by omega⟩
              obtain ⟨d, hd⟩ : ∃ d : Nat, dst h M[j] = d := ⟨(dst h M[j]).toNat, by omega⟩
              rw [ha, hd] at hends
              have HA := Lib.hid ha
              have HD := Lib.hid hd
              have ha1 : a < N + 1 := by have := HN.out; omega
              have hd1 : d < N + 1 := by have := HN.out; omega
              have HENDS := Lib.hid hends
              clear hnx hnl hblkN hjbn hE5 hlc hok hin hAA hends ha hd
              go_wp2_with fail
              refine wp_region_grow (by kernel_rfl) (by kernel_rfl) ?_
              repeat (first | go_big_quiet_step ((go_at_call 78; exact grow_call (HENDS.out _))) | quiet_step ((go_at_call 78; exact grow_call (HENDS.out _))))
              refine wpQuiet_nil ?_
              rintro _ ⟨g, rfl⟩
              have hg6 : Ext wr (grow wr g) := grow_below _ _
              have HG6 := Lib.hid hg6
              have hgOw : gO < wr.heap.size := by omega
              have hx := ((HBLK.out.ext (HE5.out.trans' hg6)).cell (i := a) (by rw [HLL.out]; exact ha1))
              have hy := ((HBN5.out.ext hg6).cell (i := d) (by rw [HNL.out]; exact hd1))
              have hfr := (HBN5.out.ext hg6).free d
              have hset := (HBN5.out.ext hg6).set (i := d) (by rw [HNL.out]; exact hd1)
              have HSET := Lib.hid hset
              have hxb := HJB.out _ (List.getElem_mem (show a < l.length by rw [HLL.out]; exact ha1))
              have hyb := HJN.out _ (List.getElem_mem (show d < nx.length by rw [HNL.out]; exact hd1))
              have hjs : jstep h l nx M[j] = if l[a]'(by rw [HLL.out]; exact ha1) < nowh then nx.set d (min (nx[d]'(by rw [HNL.out]; exact hd1)) (l[a]'(by rw [HLL.out]; exact ha1) + cost h M[j])) else nx := by
                unfold jstep
                rw [HA.out, HD.out, Int.toNat_natCast, Int.toNat_natCast, getD_lt (by rw [HLL.out]; exact ha1), getD_lt (by rw [HNL.out]; exact hd1)]
              have hjb' : JB (t + 1) (jstep h l nx M[j]) := HJB.out.jstep V.out (by omega) HJN.out HOK.out (by rw [HA.out, HLL.out]; exact ha1) (by rw [HD.out, HNL.out]; exact hd1)
              have hnx' : jfold h l (M.take (j + 1)) = jstep h l nx M[j] := by
                rw [List.take_succ_eq_append_getElem hltj]
                unfold jfold
                rw [List.foldl_append]
                have := HNX.out
                unfold jfold at this
                rw [← this]
                rfl
              have HJB' := Lib.hid hjb'
              have HNX' := Lib.hid hnx'
              generalize l[a]'(by rw [HLL.out]; exact ha1) = x at *
              generalize nx[d]'(by rw [HNL.out]; exact hd1) = y at *
              generalize cost h M[j] = c at *
              have HJS := Lib.hid hjs
              clear hg6 hset hjs hjb' hnx' m0 m1 m2 k0 k1 k2
              have hx1 : -20000000000 ≤ x := by unfold nowh at hxb; omega
              have hx2 : x ≤ 1099511627776 := by unfold nowh at hxb; omega
              have hy1 : -20000000000 ≤ y := by unfold nowh at hyb; omega
              have hy2 : y ≤ 1099511627776 := by unfold nowh at hyb; omega
              clear hxb hyb
              have hwr6 : wr.heap.size ≤ (grow wr g).heap.size := HG6.out.size
              have hgO6 : gO < (grow wr g).heap.size := by omega
              have hgN6 : gN < (grow wr g).heap.size := by omega
              generalize grow wr g = w6 at *
              by_cases hfar : x < 1099511627776
              · have hfar' : decide (x < 1099511627776) = true := by simpa using hfar
                have hal : (a : Int) < (N : Int) + 1 := by omega
                have hdl : (d : Int) < (N : Int) + 1 := by omega
                have hw6 : IntKind.i64.wrap (x + c) = x + c := IntWalk.i64_in _ (by omega)
                have HFAR := Lib.hid hfar
                clear hfar
                go_wp2_with fail
                go_region
                have hmin : (if x + c < y then x + c else y) = min y (x + c) := by
                  by_cases hh : x + c < y
                  · rw [if_pos hh]; omega
                  · rw [if_neg hh]; omega
                have HMIN := Lib.hid hmin
                clear hmin hw6 hal hdl hfar' hx hy hfr
                go_wp2_with fail
                go_roundw
                case rel =>
                  have e : nx.set d (min y (x + c)) = jfold h l (M.take (j + 1)) := by rw [HNX'.out, HJS.out, if_pos (show x < nowh from HFAR.out)]
                  refine ⟨j + 1, nx.set d (min y (x + c)), by omega, by go_num, e, by simp [HNL.out], ?_, ?_, ?_, by simp [World.setCell]; omega⟩
                  · have := HSET.out (min y (x + c))
                    rw [HMIN.out]
                    exact this.of_heap rfl
                  · rw [e, HNX'.out]; exact HJB'.out
                  · exact Below.drew (Below.setCell (HE5.out.trans' HG6.out) hgN1 _)
                case measure => simp [intOf]; omega
              · have hfar' : decide (x < 1099511627776) = false := by simpa using hfar
                have hal : (a : Int) < (N : Int) + 1 := by omega
                have HFAR := Lib.hid hfar
                clear hfar
                go_wp2_with fail
                go_roundw
                case rel =>
                  have e : nx = jfold h l (M.take (j + 1)) := by rw [HNX'.out, HJS.out, if_neg (show ¬ x < nowh from HFAR.out)]
                  refine ⟨j + 1, nx, by omega, by go_num, e, HNL.out, HBN5.out.ext HG6.out, HJN.out, HE5.out.trans' HG6.out, by omega⟩
                case measure => simp [intOf]; omega
            · obtain rfl : j = M.length := by omega
              have hnx2 : nx = jround h l := by rw [HNX.out, List.take_length, HMD.out]; rfl
              have HNX2 := Lib.hid hnx2
              clear hnx hnl hblkN hjbn hE5 hnx2
              obtain ⟨w7, rfl⟩ : ∃ w7 : World, w7 = wr := ⟨_, rfl⟩
              go_wp2_with fail
              go_loopw [9, 16] (fun sm i W => ∃ p : Nat, p ≤ N + 1 ∧ i = .int .i64 p ∧ sm = .bool (decide (nx.take p = l.take p)) ∧ Ext w7 W) (fun _ i _ => N + 1 - (intOf i).toNat)
              case atStart => exact ⟨0, by omega, rfl, by simp, Below.refl _ _⟩
              case round =>
                obtain ⟨p, hp, rfl, rfl, hE8⟩ := hrel
                have HE8 := Lib.hid hE8
                have hz8 := hE8.size
                by_cases hltp : p < N + 1
                · have hx := (HBLK.out.ext ((HE5.out).trans' hE8)).cell (i := p) (by rw [HLL.out]; exact hltp)
                  have hy := (HBN5.out.ext hE8).cell (i := p) (by rw [HNL.out]; exact hltp)
                  have hstep : decide (nx.take (p + 1) = l.take (p + 1)) = (decide (nx.take p = l.take p) && (nx[p]'(by rw [HNL.out]; exact hltp) == l[p]'(by rw [HLL.out]; exact hltp))) := by
                    rw [List.take_succ_eq_append_getElem (by rw [HNL.out]; exact hltp), List.take_succ_eq_append_getElem (by rw [HLL.out]; exact hltp)]
                    rw [Bool.eq_iff_iff]
                    simp only [decide_eq_true_eq, Bool.and_eq_true, beq_iff_eq]
                    constructor
                    · intro hh
                      have := List.append_inj hh (by simp [HNL.out, HLL.out])
                      exact ⟨this.1, by simpa using this.2⟩
                    · rintro ⟨h1, h2⟩
                      rw [h1, h2]
                  generalize l[p]'(by rw [HLL.out]; exact hltp) = x at *
                  generalize nx[p]'(by rw [HNL.out]; exact hltp) = y at *
                  have HST := Lib.hid hstep
                  have hgO8 : gO < wr.heap.size := by omega
                  have hgN8 : gN < wr.heap.size := by omega
                  have hpl : (p : Int) < (N : Int) + 1 := by omega
                  clear hstep hE8
                  cases hsame : decide (nx.take p = l.take p)
                  · have HSM := Lib.hid hsame
                    clear hsame
                    go_wp2_with fail
                    go_quiet (fail)
                    go_wp2_with fail
                    go_roundw
                    case rel => exact ⟨p + 1, by omega, by go_num, by rw [HST.out, HSM.out]; rfl, HE8.out.trans' (by exact (by repeat (first | exact Below.refl _ _ | refine Ext.al ?_ _ | refine Ext.dr ?_ | refine Ext.drN ?_ _ | refine Ext.gr ?_ _ | refine Ext.set ?_ (by simp) _ | (refine Ext.trans' ?_ (by assumption)))))⟩
                    case measure => simp [intOf]; omega
                  · have HSM := Lib.hid hsame
                    clear hsame
                    go_wp2_with fail
                    go_quiet (fail)
                    go_wp2_with fail
                    go_roundw
                    case rel => exact ⟨p + 1, by omega, by go_num, by rw [HST.out, HSM.out]; rfl, HE8.out.trans' (by exact (by repeat (first | exact Below.refl _ _ | refine Ext.al ?_ _ | refine Ext.dr ?_ | refine Ext.drN ?_ _ | refine Ext.gr ?_ _ | refine Ext.set ?_ (by simp) _ | (refine Ext.trans' ?_ (by assumption)))))⟩
                    case measure => simp [intOf]; omega
                · obtain rfl : p = N + 1 := by omega
                  have hsd : decide (nx.take (N + 1) = l.take (N + 1)) = decide (nx = l) := by
                    rw [List.take_of_length_le (by rw [HNL.out]; omega), List.take_of_length_le (by rw [HLL.out]; omega)]
                  have HSD := Lib.hid hsd
                  rw [hsd]
                  clear hE8 hsd
                  go_wp2_with fail
                  go_roundw
                  case rel =>
                    refine ⟨t + 1, gN, cN, nx, decide (nx = l), by omega, by go_num, rfl, rfl, hn1, hn2, HNL.out, HBN5.out.ext HE8.out, HE4.out.trans' (HE5.out.trans' HE8.out), HJN.out, ?_, ?_⟩
                    · intro e
                      have e' : nx = l := by simpa using e
                      have := HR2.out (by trivial)
                      rw [show N + 2 - t = (N + 2 - (t + 1)) + 1 by omega, jrun, ← HNX2.out, if_pos e'] at this
                      exact this.symm
                    · intro e
                      have e' : ¬ nx = l := by simpa using e
                      have := HR2.out (by trivial)
                      rw [show N + 2 - t = (N + 2 - (t + 1)) + 1 by omega, jrun, ← HNX2.out, if_neg e'] at this
                      exact this
                  case measure => simp [intOf]; omega
        · have hlr : leastR h start = (l, b) := by
            cases b
            · have ht2 : t = N + 2 := by
                by_cases hh : t ≤ N + 1
                · exact absurd ⟨hh, rfl⟩ hgo
                · omega
              have := HR2.out rfl
              rw [ht2, Nat.sub_self, jrun] at this
              exact this.symm
            · exact HR1.out rfl
          have HLR2 := Lib.hid hlr
          clear hblk hE hjb hb1 hb2 hlr
          cases b
          · have ht2 : t = N + 2 := by
              by_cases hh : t ≤ N + 1
              · exact absurd ⟨hh, rfl⟩ hgo
              · omega
            have htd : decide ((t : Int) ≤ (N : Int) + 1) = false := by simp; omega
            clear hgo
            go_wp2_with fail
            refine bodyPost_ret (v := .tuple #[.slice (some ⟨gO, 0, none⟩) (N + 1) cO, .bool false]) (by simp [results, Try.results32, go_sem]) rfl ?_
            exact ⟨_, by rw [HLR2.out], HE0.out.trans' (HE3.out.trans' HE4.out), by rw [HLR2.out]; exact HBLK.out.isInts hll.symm hc1 hc2⟩
          · clear hgo
            by_cases htd : (t : Int) ≤ (N : Int) + 1
            · have htd' : decide ((t : Int) ≤ (N : Int) + 1) = true := by simpa using htd
              go_wp2_with fail
              refine bodyPost_ret (v := .tuple #[.slice (some ⟨gO, 0, none⟩) (N + 1) cO, .bool true]) (by simp [results, Try.results32, go_sem]) rfl ?_
              exact ⟨_, by rw [HLR2.out], HE0.out.trans' (HE3.out.trans' HE4.out), by rw [HLR2.out]; exact HBLK.out.isInts hll.symm hc1 hc2⟩
            · have htd' : decide ((t : Int) ≤ (N : Int) + 1) = false := by simpa using htd
              go_wp2_with fail
              refine bodyPost_ret (v := .tuple #[.slice (some ⟨gO, 0, none⟩) (N + 1) cO, .bool true]) (by simp [results, Try.results32, go_sem]) rfl ?_
              exact ⟨_, by rw [HLR2.out], HE0.out.trans' (HE3.out.trans' HE4.out), by rw [HLR2.out]; exact HBLK.out.isInts hll.symm hc1 hc2⟩
end Go.Proofs.Ytgcldgchhdjnhaa
