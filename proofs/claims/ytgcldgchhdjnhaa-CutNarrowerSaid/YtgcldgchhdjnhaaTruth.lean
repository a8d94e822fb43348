/-
  The walk of Truth: a truth out of the least sums.
-/
import Derived.Test.YtgcldgchhdjnhaaOpen
import Derived.Test.YtgcldgchhdjnhaaOwn
import Derived.Test.YtgcldgchhdjnhaaPlain
import Derived.Laws.CopyOwn
namespace Go.Proofs.Ytgcldgchhdjnhaa
open Go.RowKit Go.Shelf

def iRow (n : Int) : List Value := [.int .i64 n]
theorem elI64 : El 25 2 1 := El.mk' (bytes := 8) (z := .int .i64 0) (by kernel_rfl) (by kernel_rfl) rfl (by omega) (by omega)

theorem infI64 : ∃ i, Try.prog.info? 2 = some i ∧ i.zero = some (.int .i64 0) ∧ i.size = 1 ∧ i.bytes = 8 := info_parts (by kernel_rfl)
set_option maxRecDepth 100000 in
set_option maxHeartbeats 2000000 in
theorem truth_any (h : Hall) (sv : Value) (w : World) (hs : IsCnts w sv h.cs) :
    Calls Try.prog 19 #[.agg #[.int .i64 h.n, .int .i64 h.most, sv]] w fun e w' =>
      ∃ tv, e = .returned (.tuple #[tv, .int .i64 (truthErr h)]) ∧ Ext w w' ∧ IsInts w' .i64 tv (truthL h) := by
  obtain ⟨sa, cap, rfl, hl1, hl2, -⟩ := hs.spec
  have HS := Lib.hid hs
  clear hs
  by_cases hc : chk h = 0
  rotate_left
  · go_enter Try.func19, Try.ntmps19
    go_wp2_with fail
    refine (open_bad h (.slice sa h.cs.length cap) (.slice none 0 0) [] _ (HS.out.ext (by repeat (first | exact Below.refl _ _ | refine Ext.al ?_ _ | refine Ext.dr ?_ | refine Ext.drN ?_ _ | refine Ext.gr ?_ _ | refine Ext.set ?_ (by simp) _ | (refine Ext.trans' ?_ (by assumption))))) (IsInts.nil _ _) (by rw [openE_nil]; exact hc)).mono ?_
    rintro e W1 ⟨rfl, hb1⟩
    rw [openE_nil]
    have hc' : (chk h == 0) = false := by simpa using hc
    go_wp2_with fail
    refine bodyPost_ret (v := .tuple #[.slice none 0 0, .int .i64 (chk h)]) (by simp [results, Try.results19, go_sem]) rfl ?_
    have e : truthErr h = chk h := by simp [truthErr, hc]
    refine ⟨.slice none 0 0, by rw [e], (by repeat (first | exact Below.refl _ _ | refine Ext.al ?_ _ | refine Ext.dr ?_ | refine Ext.drN ?_ _ | refine Ext.gr ?_ _ | refine Ext.set ?_ (by simp) _ | (refine Ext.trans' ?_ (by assumption)))), ?_⟩
    rw [show truthL h = [] by rw [truthL, e, if_neg hc]]
    exact IsInts.nil _ _
  have v := valid_of_chk hc
  have n1 := v.n1
  have n10 := v.n10
  have V := Lib.hid v
  clear v
  go_enter Try.func19, Try.ntmps19
  go_wp2_with fail
  refine (open_ok h (.slice sa h.cs.length cap) (.slice none 0 0) [] _ (HS.out.ext (by repeat (first | exact Below.refl _ _ | refine Ext.al ?_ _ | refine Ext.dr ?_ | refine Ext.drN ?_ _ | refine Ext.gr ?_ _ | refine Ext.set ?_ (by simp) _ | (refine Ext.trans' ?_ (by assumption))))) (IsInts.nil _ _) (by rw [openE_nil]; exact hc)).mono ?_
  rintro e W1 ⟨b, r, rfl, hb1, hsh⟩
  have k0 := cell_ext hb1 (a := ⟨w.heap.size, 0, none⟩) (v := .int .i64 h.n) (by simp [go_sem])
  have HE1 := Lib.hid (Ext.trans' (by exact (by repeat (first | exact Below.refl _ _ | refine Ext.al ?_ _ | refine Ext.dr ?_ | refine Ext.drN ?_ _ | refine Ext.gr ?_ _ | refine Ext.set ?_ (by simp) _ | (refine Ext.trans' ?_ (by assumption))))) hb1 : Ext w W1)
  have HSh := Lib.hid hsh
  clear hb1 hsh
  go_wp2_with fail
  refine (least_any h _ V.out 0 (by omega) b r _ HSh.out).mono ?_
  rintro e W2 ⟨rfl, hb2, hwy⟩
  replace k0 := cell_ext hb2 k0
  have HE2 := Lib.hid (HE1.out.trans' hb2)
  have HW := Lib.hid hwy
  have hbw := hwy.lt
  have hzz : w.heap.size < W2.heap.size := World.block_lt_of_cell? _ _ k0
  clear hb2 hwy
  cases hok : (leastM h 0).2
  · go_wp2_with fail
    refine bodyPost_ret (v := .tuple #[.slice none 0 0, .int .i64 5]) (by simp [results, Try.results19, go_sem]) rfl ?_
    have e : truthErr h = 5 := by simp [truthErr, hc, hok]
    refine ⟨.slice none 0 0, by rw [e], HE2.out, ?_⟩
    rw [show truthL h = [] by rw [truthL, e]; rfl]
    exact IsInts.nil _ _
  have he : truthErr h = 0 := by simp [truthErr, hc, hok]
  have HERR := Lib.hid he
  obtain ⟨N, hN⟩ : ∃ N : Nat, N = h.n.toNat := ⟨_, rfl⟩
  have hNi : h.n = N := by omega
  have HNI := Lib.hid hNi
  have HN := Lib.hid hN
  have hN10 : N ≤ 10 := by omega
  have hN1 : 1 ≤ N := by omega
  rw [hNi] at k0
  clear he hN hNi hok
  obtain ⟨σ, hσ⟩ : ∃ σ : Nat → Int, σ = (leastM h 0).1.sums := ⟨_, rfl⟩
  have HB := Lib.hid (fun i => hσ ▸ leastM_bd V.out 0 i : ∀ i, -20000000000 ≤ σ i ∧ σ i ≤ 1099511627776)
  have HSG := Lib.hid hσ
  have HSUM : Hid (∀ i, i < 11 → W2.cell? ⟨W1.heap.size, i, none⟩ = some (.int .i64 (σ i))) := Lib.hid fun i hi => by rw [hσ]; exact HW.out.sum hi
  clear hσ
  go_wp2_with fail
  go_loopw [8, 28] (fun v i W => ∃ k : Nat, k ≤ N ∧ i = .int .i64 k ∧ Ext W2 W ∧ Owns W W2.heap.size 2 1 v ((List.range k).map fun j => iRow (σ (j + 1) - σ j))) (fun _ i _ => N - (intOf i).toNat)
  case atStart => exact ⟨0, Nat.zero_le _, rfl, Below.refl _ _, Owns.nil _ _ _ _⟩
  case round =>
    obtain ⟨k, hk, rfl, hb, hown⟩ := hrel
    have HO := Lib.hid hown
    clear hown
    by_cases hlt : k < N
    · have s0 := cell_ext hb (HSUM.out k (by omega))
      have s1 := cell_ext hb (HSUM.out (k + 1) (by omega))
      have b0 := HB.out k
      have b1 := HB.out (k + 1)
      have hz := hb.size
      have hbw' : W1.heap.size < wr.heap.size := by omega
      have HE := Lib.hid hb
      have hw1 : IntKind.i64.wrap ((k : Int) + 1) = (k : Int) + 1 := IntWalk.i64_in _ (by omega)
      have hw2 : ((k : Int) + 1).toNat = k + 1 := by omega
      have hw3 : (0 : Int) ≤ (k : Int) + 1 := by omega
      have hw4 : (k : Int) + 1 < 11 := by omega
      have hw5 : (k : Int) < 11 := by omega
      have hw6 : IntKind.i64.wrap (σ (k + 1) - σ k) = σ (k + 1) - σ k := IntWalk.i64_in _ (by omega)
      clear hb
      go_wp2_with fail
      go_region_law (refine stepOwn rfl (.tmp 31) (.tmp 46) elI64 rfl W2.heap.size rfl (HO.out.ext (by exact (by repeat (first | exact Below.refl _ _ | refine Ext.al ?_ _ | refine Ext.dr ?_ | refine Ext.drN ?_ _ | refine Ext.gr ?_ _ | refine Ext.set ?_ (by simp) _ | (refine Ext.trans' ?_ (by assumption)))))) wr.heap.size 0 1 [iRow (σ (k + 1) - σ k)] rfl (by simp [iRow]) (rowsAt_one (fun j hj => by
          have hj0 : j = 0 := by simp [iRow] at hj; omega
          subst hj0
          simp [go_sem, iRow])) (by simp [iRow, Value.oneCell']) (by simp; omega) (by simp; omega) ?_; intro v' w' hown' hb')
      all_goals
        have HO2 := Lib.hid hown'
        have HB2 := Lib.hid hb'
        clear hown' hb' hw1 hw2 hw3 hw4 hw5 hw6 s0 s1
        go_wp2_with fail
        go_roundw
        case rel =>
          refine ⟨k + 1, by omega, by go_num, HE.out.trans (Below.trans (by exact ((Below.refl _ _).drew.alloc (by simp; omega) _)) HB2.out), ?_⟩
          have e : ((List.range (k + 1)).map fun j => iRow (σ (j + 1) - σ j)) = ((List.range k).map fun j => iRow (σ (j + 1) - σ j)) ++ [iRow (σ (k + 1) - σ k)] := by
            rw [List.range_succ, List.map_append]; rfl
          rw [e]
          exact HO2.out
        case measure => simp [intOf]; omega
    · obtain rfl : k = N := by omega
      obtain ⟨va, vcap, rfl, hv1, hv2, hv3⟩ := HO.out.form
      have hlen : ((List.range k).map fun j => iRow (σ (j + 1) - σ j)).length = k := by simp
      rw [hlen] at hv1 ⊢
      rcases hv3 with ⟨h0, _⟩ | ⟨g, rfl, hg1, hg2, hg3, _⟩
      · rw [← List.length_eq_zero_iff, hlen] at h0; omega
      have HG3 := Lib.hid hg3
      have HE := Lib.hid hb
      clear hlen hg3 hb
      obtain ⟨iI, hiI, hzI, hsI, hbI⟩ := infI64
      have hbk : iI.bytes * k ≤ 281474976710656 := by rw [hbI]; omega
      go_wp2_with (first | (at_make; refine wpList_make_full _ rfl _ _ 25 rfl W2.heap.size 2 iI (.int .i64 0) 1 elI64.und hiI hzI hsI .i64 .i64 _ _ k rfl rfl rfl rfl hbk (by simp [maxLen]; omega) (by have := HE.out.size; omega) ?_))
      intro w3 hown3 hg3'
      have hE3 : Ext wr w3 := (Below.refl _ wr).grown hg3' (Nat.le_refl _) fun k hk => by cases hk
      have hcur : ∃ cur : Array Value, w3.heap[wr.heap.size]? = some (.cells cur 2 (0, 0)) ∧ cur.size = k := by
        rcases hown3.2 with ⟨e, _⟩ | ⟨g', cap', cur, e, _, hg', _, _, hcs, _⟩
        · cases e
        · cases e; exact ⟨cur, hg', by omega⟩
      obtain ⟨cur, hcur, hcs⟩ := hcur
      have HCUR := Lib.hid hcur
      have HCS := Lib.hid hcs
      have HE3 := Lib.hid hE3
      have hsrc : ∀ j v, ((truthM h).map (Value.int .i64))[j]? = some v → w3.cell? ((⟨g, 0, none⟩ : Addr).add j) = some v := fun j v hj => by
        rw [addr_add, Nat.zero_add]
        have hjk : j < k := by
          have := (List.getElem?_eq_some_iff.1 hj).1
          simp [truthM] at this
          have := HN.out
          omega
        have := HG3.out j (by simpa using hjk) 0 (by simp [iRow])
        simp [iRow] at this
        have hv : v = .int .i64 (σ (j + 1) - σ j) := by
          have := (List.getElem?_eq_some_iff.1 hj).2
          simp [truthM] at this
          rw [← this, HSG.out]
        rw [hv]
        exact cell_ext HE3.out this
      have HSRC := Lib.hid hsrc
      have hlen : ((truthM h).map (Value.int .i64)).length = Nat.min k k := by have := HN.out; simp [truthM]; omega
      have HLEN := Lib.hid hlen
      have HFIT : Hid (0 + ((truthM h).map (Value.int .i64)).length ≤ cur.size) := Lib.hid (by rw [hlen, hcs]; show 0 + min k k ≤ k; omega)
      have HONE : Hid (∀ u ∈ (truthM h).map (Value.int .i64), u.oneCell' = true) := Lib.hid (by intro u hu; obtain ⟨y, _, rfl⟩ := List.mem_map.1 hu; rfl)
      have hsz1 : (Try.prog.info? 2).map (·.size) = some 1 := by rw [hiI]; simp [hsI]
      have HSZ := Lib.hid hsz1
      clear hown3 hg3' hE3 hcur hcs hsrc hlen hsz1 hiI hzI hsI hbI hbk
      go_wp2_with (with_reducible refine wpList_copy_own rfl (.tmp 52) (.tmp 53) 25 25 rfl 2 elI64.und HSZ.out wr.heap.size 0 k k ⟨g, 0, none⟩ k vcap rfl rfl cur 2 HCUR.out ((truthM h).map (Value.int .i64)) HLEN.out HSRC.out HFIT.out HONE.out ?_)
      refine bodyPost_ret (v := .tuple #[.slice (some ⟨wr.heap.size, 0, none⟩) k k, .int .i64 0]) (by simp [results, Try.results19, go_sem]) rfl ?_
      refine ⟨.slice (some ⟨wr.heap.size, 0, none⟩) k k, by rw [HERR.out], (HE2.out.trans' HE.out).trans' (HE3.out.mono (Nat.le_refl _) |>.trans (by exact below_setRow (Below.refl _ _) (Nat.le_refl _) _)), ?_⟩
      have hl : (truthM h).length = k := by have := HN.out; simp [truthM]; omega
      have e : truthL h = truthM h := by rw [truthL, HERR.out]; rfl
      rw [e]
      have := IsInts.mk (w := w3.setRow wr.heap.size (cur.toList.take 0 ++ ((truthM h).map (Value.int .i64) ++ cur.toList.drop (0 + ((truthM h).map (Value.int .i64)).length))).toArray) (k := .i64) (l := truthM h) (b := wr.heap.size) (off := 0) (cap := k) (by omega) (by omega) fun i hi => by
        rw [cell_of_row _ _ _ _ _ _ (setRow_heap w3 wr.heap.size _ _ _ _ HCUR.out)]
        simp [List.getElem?_append_left, hi]
      rw [hl] at this
      simpa using this
end Go.Proofs.Ytgcldgchhdjnhaa
