/-
  The walks of subsets and of its iterator: it yields the lists of numbers below one, those with fewer elements first.
  The walk of Wait: the windows that must not pull.
  The walks of longest and Lasts: the longest row from a doomed state.
  The walk of Lasts.
  The walk of circle: a shortest circle, by a search from each state.
  The walk of Circle.
-/
import Derived.Test.YtndgaklcnhoddaaPl
import Derived.Test.YtndgaklcnhoddaaGm
import Derived.Test.YtndgaklcnhoddaaWd
import Derived.Test.YtndgaklcnhoddaaWb
import Derived.Test.YtndgaklcnhoddaaWa
import Derived.Deep.LoopGhost
import Derived.Laws.CopyOwn
namespace Go.Proofs.Ytndgaklcnhoddaa
open Go.RowKit Go.Shelf

attribute [local go_sem] Oper.semAt_some

def rdW (W : World) (g m : Nat) : List Int := (List.range m).map fun j => match W.cell? ⟨g, j, none⟩ with | some (.int _ x) => x | _ => 0
theorem NumB.rd {W : World} {g m : Nat} {c : List Int} (h : NumB W g m (gt c)) (hc : c.length = m) : rdW W g m = c := by
  unfold rdW
  refine List.ext_getElem (by simp [hc]) fun i h1 h2 => ?_
  rw [List.getElem_map, List.getElem_range, h.cell i (by omega)]
  exact (gt_get h2).symm
theorem NumB.ints {W : World} {g m : Nat} {c : List Int} (h : NumB W g m (gt c)) (hc : c.length = m) (hm : m ≤ 1000000) : IsInts W .i64 (.slice (some ⟨g, 0, none⟩) m m) c := by
  have := IsInts.mk (w := W) (k := .i64) (l := c) (b := g) (off := 0) (cap := m) (by omega) (by omega) fun i hi => by
    rw [Nat.zero_add, h.cell i (by omega), gt_get hi]
  rwa [hc] at this
theorem gt_base {m j : Nat} (h : j < m) : gt (baseC m) j = (j : Int) := by
  unfold baseC
  rw [← gt_get (by simpa using h)]
  simp
theorem base_len (m : Nat) : (baseC m).length = m := by simp [baseC]
theorem stepC_len (c : List Int) (i : Nat) : (stepC c i).length = c.length := by simp [stepC]
theorem gt_step {c : List Int} {i j : Nat} (h : j < c.length) : gt (stepC c i) j = if j < i then gt c j else gt c i + 1 + ((j : Int) - i) := by
  rw [← gt_get (by rw [stepC_len]; exact h)]
  simp [stepC, gt]

set_option maxRecDepth 100000 in
set_option maxHeartbeats 1000000 in
theorem subs_any (n : Nat) (w : World) :
    Calls Try.prog 88 #[.int .i64 n] w fun e w' => e = .returned (.func (.func 105) #[] #[.pointer (some ⟨w.heap.size, 0, none⟩)]) ∧
      Ext w w' ∧ w'.cell? ⟨w.heap.size, 0, none⟩ = some (.int .i64 n) ∧ w'.heap.size = w.heap.size + 1 := by
  go_enter Try.func88, Try.ntmps88
  go_wp2
  go_ret
  exact ⟨rfl, by exact (by repeat (first | exact Below.refl _ _ | refine Ext.al ?_ _ | refine Ext.dr ?_ | refine Ext.drN ?_ _ | refine Ext.gr ?_ _ | refine Ext.set ?_ (by simp) _ | (refine Ext.trans' ?_ (by assumption)))), by simp [go_sem], by simp⟩

set_option maxRecDepth 100000 in
set_option maxHeartbeats 4000000 in
theorem subs_iter (n : Nat) (n5 : n ≤ 5) (R : Nat → Prop) (bn : Nat) (w0 : World) (hR : ∀ k, R k → k < w0.heap.size) (rbn : R bn) (hbn : w0.cell? ⟨bn, 0, none⟩ = some (.int .i64 n)) :
    IterW Try.prog 105 #[.pointer (some ⟨bn, 0, none⟩)] (fun x : Value × List Int => #[x.1]) R (fun xs => xs.map (·.2) = subsAll n) (fun _ => True)
      (fun B O pre x W => (∃ rest, subsAll n = pre.map (·.2) ++ x.2 :: rest) ∧ Owns W B 3 1 x.1 (x.2.map iRow) ∧ ∀ g, x.1.ownBlock = some g → ¬ O g) w0 := by
  intro n0 l J Jx W hW hJ hJx hY h0
  have hb1 := cell_ext hW hbn
  clear hbn
  have hs0 := hW.size
  refine callsIn_of_wp Try.func105 rfl trivial ?_ rfl
  simp only [Try.ntmps105, List.size_toArray, List.length_cons, List.length_nil, Nat.reduceAdd, Nat.reduceSub, Array.replicate_succ, Array.replicate_zero, List.push_toArray, List.append_toArray, List.nil_append, List.cons_append]
  have HJ := Lib.hid hJ
  have HY := Lib.hid hY
  have HW := Lib.hid hW
  clear hJ hY hW
  gi_wp2_with fail
  gi_loopw [10] (fun i wr => ∃ (m : Nat) (O : Nat → Prop) (pre : List (Value × List Int)), m ≤ n + 1 ∧ i = .int .i64 m ∧ pre.map (·.2) = flatK n m ∧ J O pre wr ∧ (∀ g, O g → w0.heap.size ≤ g ∧ g < wr.heap.size) ∧ Kept R W wr)
    (fun i wr => n + 1 - (intOf i).toNat)
  case atStart => exact ⟨0, fun _ => False, [], Nat.zero_le _, rfl, rfl, h0, fun _ h => h.elim, Kept.refl _ _⟩
  case round =>
    obtain ⟨m, O, pre, hm, rfl, hpre, hj, hO, hkp⟩ := hrel
    by_cases hlt : m < n + 1
    · have hmi : (m : Int) < (n : Int) + 1 := by omega
      obtain ⟨W1, hmk, hnum, hE1⟩ := make_ints wr m (by omega)
      obtain ⟨g, hg⟩ : ∃ g, g = wr.heap.size := ⟨_, rfl⟩
      rw [← hg] at hnum hmk
      have hgl := hnum.lt
      have hwr : w0.heap.size ≤ wr.heap.size := Nat.le_trans hs0 hkp.size
      have hj1 : J (fun k => O k ∨ k = g) pre W1 := HJ.out pre O _ wr W1 hj (.of_below hE1) (fun _ h => .inl h) (fun k hk => hk.imp id fun e => ⟨by omega, by omega⟩)
      obtain ⟨O1, hO1⟩ : ∃ O1 : Nat → Prop, O1 = fun k => O k ∨ k = g := ⟨_, rfl⟩
      rw [← hO1] at hj1
      have hO1g : O1 g := by rw [hO1]; exact .inr rfl
      have hO1l : ∀ k, O1 k → w0.heap.size ≤ k ∧ k < W1.heap.size := fun k hk => by
        rw [hO1] at hk
        rcases hk with h | h
        · have := hO k h; have := hE1.size; omega
        · omega
      have hk1 : Kept R W W1 := hkp.trans (.of_below hE1)
      obtain ⟨i1, i2, i3⟩ := okSeq_all n5 (m := m) (by omega)
      have HI1 := Lib.hid i1
      have HI2 := Lib.hid i2
      have HI3 := Lib.hid i3
      have HPRE := Lib.hid hpre
      have HJ1 := Lib.hid hj1
      have HO1G := Lib.hid hO1g
      have HO1L := Lib.hid hO1l
      have HK1 := Lib.hid hk1
      have HNUM := Lib.hid hnum
      have hgw : w0.heap.size ≤ g := by omega
      clear hnum hE1 hj1 hO1 hO1g hO1l hk1 i1 i2 i3 hpre hj hO hkp hg
      gi_wp2_with fail
      gi_loopw [17] (fun i wr2 => ∃ k : Nat, k ≤ m ∧ i = .int .i64 k ∧ NumB wr2 g m (fun j => if j < k then (j : Int) else 0) ∧ J O1 pre wr2 ∧ Kept R W wr2 ∧ W1.heap.size ≤ wr2.heap.size) (fun i _ => m - (intOf i).toNat)
      case atStart => exact ⟨0, Nat.zero_le _, rfl, HNUM.out.congr fun j _ => by simp, HJ1.out, HK1.out, Nat.le_refl _⟩
      case round =>
        obtain ⟨k, hk, rfl, hnum, hj, hkp, hzz⟩ := hrel
        have hf := hnum.free k
        have hgl2 := hnum.lt
        have hrg : ¬ R g := fun h => by have := hR g h; omega
        clear HNUM HJ1 HK1
        by_cases hlt2 : k < m
        · have hki : (k : Int) < (m : Int) := by omega
          have c0 : wr.cell? ⟨g, k, none⟩ = some (.int .i64 0) := by have := hnum.cell k hlt2; simpa using this
          have HN2 := Lib.hid hnum
          have HJ2 := Lib.hid hj
          have HK2 := Lib.hid hkp
          clear hnum hj hkp
          gi_wp2_with fail
          go_roundw
          case rel =>
            refine ⟨k + 1, by omega, by go_num, (HN2.out.set k k).congr fun j _ => ?_, (HJ.out pre).setCell HJ2.out HO1G.out _, HK2.out.setCell (fun _ => hrg) _, by simpa [World.setCell] using hzz⟩
            by_cases e : j = k
            · rw [if_pos e, if_pos (by omega), e]
            · rw [if_neg e]
              by_cases h : j < k
              · rw [if_pos h, if_pos (by omega)]
              · rw [if_neg h, if_neg (by omega)]
          case measure => simp [intOf]; omega
        · have hkm : k = m := by omega
          subst hkm
          have hnb : NumB wr g k (gt (baseC k)) := hnum.congr fun j hj => by rw [if_pos hj, gt_base hj]
          have HNB := Lib.hid hnb
          have HJ2 := Lib.hid hj
          have HK2 := Lib.hid hkp
          clear hnum hj hkp hnb
          gi_wp2_with fail
          gi_loopw [6] (fun _ W2 => ∃ (c : List Int) (pre2 rest : List (List Int)) (pre : List (Value × List Int)), pre.map (·.2) = flatK n k ++ pre2 ∧ incs n k = pre2 ++ c :: rest ∧ NumB W2 g k (gt c) ∧ J O1 pre W2 ∧ Kept R W W2 ∧ W1.heap.size ≤ W2.heap.size) (fun _ W2 => (incs n k).length - (incs n k).idxOf (rdW W2 g k))
          case atStart =>
            have h2 := HI2.out
            cases e : incs n k with
            | nil => rw [e] at h2; cases h2
            | cons c r =>
              rw [e] at h2
              cases h2
              exact ⟨_, [], r, pre, by rw [HPRE.out]; simp, by simp, HNB.out, HJ2.out, HK2.out, hzz⟩
          case round =>
            obtain ⟨c, pre2, rest, pre3, hp3, hinc, hnum, hj, hkp, hzz3⟩ := hrel
            clear HNB HJ2 HK2
            have hc := HI3.out c (by rw [hinc]; simp)
            have hint := hnum.ints hc.1 (by omega)
            have HP3 := Lib.hid hp3
            have HINC := Lib.hid hinc
            have HC := Lib.hid hc
            have HRD := Lib.hid (hnum.rd hc.1)
            have HN2 := Lib.hid hnum
            have HJ2 := Lib.hid hj
            have HK2 := Lib.hid hkp
            have HINT := Lib.hid hint
            have hgl3 := hnum.lt
            clear hp3 hinc hc hnum hj hkp hint
            gi_wp2_with fail
            refine ⟨trivial, fun h => (by simp [Fence.wide] at h), (callsIn_wide.2 (clone_any c g 0 k k _ HINT.out (by have := HC.out.1; omega))).mono ?_⟩
            rintro e W3 ⟨v3, rfl, hE3, hown3⟩
            obtain ⟨va, vn, vc, rfl⟩ := hown3.isSlice
            have hj3 := ((HJ.out pre3).ext HJ2.out hE3)
            have hk3 := HK2.out.trans (.of_below hE3)
            have hnx : (∃ rest, subsAll n = pre3.map (·.2) ++ c :: rest) := by
              obtain ⟨r, hr⟩ := flatK_pre (n := n) (n - k) (k + 1) (by omega)
              exact ⟨rest ++ r, by rw [hr, flatK_succ, HINC.out, HP3.out]; simp⟩
            have hno : ∀ g', (Value.slice va vn vc).ownBlock = some g' → ¬ O1 g' := fun g' h ho => by
              have h1 := (hown3.notOwn g' h).1
              have h2 := (HO1L.out g' ho).2
              omega
            have hy := HY.out O1 pre3 (.slice va vn vc, c) W3 hj3 ⟨hnx, hown3.base HK2.out.size, hno⟩
            have hnum3 := HN2.out.of_heap (hE3.block g hgl3)
            have hz3 := hE3.size
            have HNUM3 := Lib.hid hnum3
            have HK3 := Lib.hid hk3
            clear hE3 hown3 hj3 hk3 hnx hno hnum3 HN2 HINT HJ2 HK2
            obtain ⟨fn, tmps, assign, body, hy, hR2⟩ := hy
            gi_wp2_with fail
            refine ⟨fun h => (by simp [Fence.wide] at h), hR2.mono ?_⟩
            clear hy hR2
            rintro e W4 (⟨rfl, hj4, hk4⟩ | ⟨rfl, hj4⟩)
            · have hgl4 := HNUM3.out.lt
              have HNUM4 := Lib.hid (HNUM3.out.of_heap (hk4.same g hgl4 (.inr HO1G.out)))
              have HK4 := Lib.hid (HK3.out.trans (hk4.mono fun _ _ h => .inl h))
              have hz4 := hk4.size
              have HJ4 := Lib.hid hj4
              clear hj4 hk4 hgl4 HNUM3 HK3
              gi_wp2_with fail
              refine wpIn_wide.2 ?_
              go_loopw [6] (fun iv Wq => ∃ (j : Nat) (z : Int), j ≤ k ∧ z + 1 = j ∧ iv = .int .i64 z ∧ growG n k c j = growG n k c k ∧ Ext W4 Wq) (fun iv _ => (intOf iv + 1).toNat)
              case atStart => exact ⟨k, _, Nat.le_refl _, by omega, rfl, rfl, Below.refl _ _⟩
              case round =>
                obtain ⟨j, z, hjk, hz, rfl, hgr, hEq⟩ := hrel
                have HEQ := Lib.hid hEq
                have HGR := Lib.hid hgr
                cases j with
                | zero =>
                  obtain rfl : z = -1 := by omega
                  clear hEq hgr hz
                  go_upto_region 11 with (fail)
                  go_quiet (fail)
                  go_wp2_with fail
                  have hg0 : growG n k c k = 0 := HGR.out.symm
                  have hrest := (okSeq_at (pre := pre2) (rest := rest) (by rw [← HINC.out]; exact HI1.out)).1 hg0
                  have HREST := Lib.hid hrest
                  clear hg0 hrest
                  gi_wp2_with fail
                  go_roundw
                  case rel =>
                    refine ⟨k + 1, O1, pre3 ++ [(.slice va vn vc, c)], by omega, by go_num, ?_, (HJ.out _).ext HJ4.out (HEQ.out.drN _), fun q hq => ?_, HK4.out.trans (.of_below (HEQ.out.drN _))⟩
                    · rw [List.map_append, HP3.out, flatK_succ, HINC.out, HREST.out]
                      simp
                    · have h1 := HO1L.out q hq
                      have h2 := (HEQ.out.drN nq).size
                      omega
                  case measure => simp [intOf]; omega
                | succ j =>
                  obtain rfl : z = (j : Int) := by omega
                  have hd : decide ((j : Int) ≥ 0) = true := decide_eq_true (by omega)
                  have cj := (HNUM4.out.of_heap (hEq.block g (HNUM4.out.lt))).cell j (by omega)
                  have cb := HK4.out.trans (.of_below hEq) |>.cell hb1 rbn
                  have hjki : (j : Int) < (k : Int) := by omega
                  obtain ⟨x, hx⟩ : ∃ x, x = gt c j := ⟨_, rfl⟩
                  rw [← hx] at cj
                  have HX := Lib.hid hx
                  clear hEq hgr hx hz
                  by_cases hxe : x = (n : Int) - k + j
                  · subst hxe
                    go_upto_region 11 with (fail)
                    go_quiet (fail)
                    go_wp2_with fail
                    go_roundw
                    case rel =>
                      refine ⟨j, (j : Int) - 1, by omega, by omega, by go_num, ?_, HEQ.out.drN _⟩
                      rw [← HGR.out, growG, if_pos (by have := HX.out; unfold gt at this; exact this.symm)]
                    case measure => simp [intOf]
                  · have hx1 : (x == (n : Int) - k + j) = false := by simpa using hxe
                    have HXE := Lib.hid hxe
                    clear hxe
                    go_upto_region 11 with (fail)
                    go_quiet (fail)
                    go_wp2_with fail
                    have hgj : growG n k c k = j + 1 := by
                      rw [← HGR.out, growG, if_neg]
                      have := HX.out
                      unfold gt at this
                      rw [← this]
                      exact HXE.out
                    obtain ⟨r, hrest⟩ := (okSeq_at (pre := pre2) (rest := rest) (by rw [← HINC.out]; exact HI1.out)).2 (by omega)
                    rw [hgj, Nat.add_sub_cancel] at hrest
                    have HREST := Lib.hid hrest
                    obtain ⟨X, hX⟩ : ∃ X, wr.drewN nq = X := ⟨_, rfl⟩
                    have hEX : Ext W4 X := by rw [← hX]; exact HEQ.out.drN _
                    rw [hX]
                    have hnumX := HNUM4.out.of_heap (hEX.block g HNUM4.out.lt)
                    have hfX := hnumX.free j
                    have cX : X.cell? ⟨g, j, none⟩ = some (.int .i64 x) := by rw [hnumX.cell j (by omega), HX.out]
                    have hxb : 0 ≤ x ∧ x < 5 := by
                      have hcl := HC.out.1
                      have := HC.out.2 c[j] (List.getElem_mem (by omega))
                      rw [gt_get (by omega), ← HX.out] at this
                      omega
                    have hsX := hEX.size
                    have HEX := Lib.hid hEX
                    have HNX := Lib.hid hnumX
                    have hrg : ¬ R g := fun h => by have := hR g h; omega
                    clear hgj hrest hX hEX hnumX
                    gi_wp2_with fail
                    gi_loopw [7] (fun kv Wk => ∃ t : Nat, j + 1 ≤ t ∧ t ≤ k ∧ kv = .int .i64 t ∧ NumB Wk g k (fun i => if i < t then gt (stepC c j) i else gt c i) ∧ J O1 (pre3 ++ [(.slice va vn vc, c)]) Wk ∧ Kept R W Wk ∧ W1.heap.size ≤ Wk.heap.size) (fun kv _ => k - (intOf kv).toNat)
                    case atStart =>
                      refine ⟨j + 1, Nat.le_refl _, by omega, by go_num, (HNX.out.set j (x + 1)).congr fun i hi => ?_, (HJ.out _).setCell ((HJ.out _).ext HJ4.out HEX.out) HO1G.out _, (HK4.out.trans (.of_below HEX.out)).setCell (fun _ => hrg) _, by simp [World.setCell]; omega⟩
                      have hcl := HC.out.1
                      by_cases e : i = j
                      · rw [if_pos e, if_pos (by omega), gt_step (by omega), if_neg (by omega), ← HX.out, e]; omega
                      · rw [if_neg e]
                        by_cases h : i < j
                        · rw [if_pos (by omega), gt_step (by omega), if_pos h]
                        · rw [if_neg (by omega)]
                    case round =>
                      obtain ⟨t, htj, htk, rfl, hnt, hjt, hkt, hzt⟩ := hrel
                      have HNT := Lib.hid hnt
                      have HJT := Lib.hid hjt
                      have HKT := Lib.hid hkt
                      by_cases hltt : t < k
                      · obtain ⟨u, rfl⟩ : ∃ u, t = u + 1 := ⟨t - 1, by omega⟩
                        have hft := hnt.free (u + 1)
                        have hcl := HC.out.1
                        have cu : wr.cell? ⟨g, u, none⟩ = some (.int .i64 (x + 1 + ((u : Int) - j))) := by
                          rw [hnt.cell u (by omega), if_pos (by omega), gt_step (by omega), if_neg (by omega), HX.out]
                        have ct : wr.cell? ⟨g, u + 1, none⟩ = some (.int .i64 (gt c (u + 1))) := by
                          rw [hnt.cell (u + 1) hltt, if_neg (by omega)]
                        have huk : (u : Int) + 1 < (k : Int) := by omega
                        have huk2 : (u : Int) < (k : Int) := by omega
                        clear hnt hjt hkt hcl
                        gi_wp2_with fail
                        go_roundw
                        case rel =>
                          refine ⟨u + 1 + 1, by omega, by omega, by go_num, (HNT.out.set (u + 1) (x + 1 + ((u : Int) - j) + 1)).congr fun i hi => ?_, (HJ.out _).setCell HJT.out HO1G.out _, HKT.out.setCell (fun _ => hrg) _, by simpa [World.setCell] using hzt⟩
                          have hcl := HC.out.1
                          by_cases e : i = u + 1
                          · rw [if_pos e, if_pos (by omega), gt_step (by omega), if_neg (by omega), ← HX.out, e]; omega
                          · rw [if_neg e]
                            by_cases h : i < u + 1
                            · rw [if_pos h, if_pos (by omega)]
                            · rw [if_neg h, if_neg (by omega)]
                        case measure => simp [intOf]; omega
                      · obtain rfl : t = k := by omega
                        have hfin : NumB wr g t (gt (stepC c j)) := hnt.congr fun i hi => if_pos hi
                        have HFIN := Lib.hid hfin
                        clear hnt hjt hkt hfin
                        gi_wp2_with fail
                        go_roundw
                        case rel =>
                          refine ⟨stepC c j, pre2 ++ [c], r, pre3 ++ [(.slice va vn vc, c)], ?_, ?_, HFIN.out, HJT.out, HKT.out, hzt⟩
                          · rw [List.map_append, HP3.out]; simp
                          · rw [HINC.out, HREST.out]; simp
                        case measure =>
                          have hcl := HC.out.1
                          rw [HRD.out, HFIN.out.rd (by rw [stepC_len]; exact hcl)]
                          have hnd := incs_nodup (n : Int) t
                          rw [HINC.out, HREST.out] at hnd ⊢
                          have e1 := idx_at hnd
                          have e2 : (pre2 ++ c :: stepC c j :: r) = (pre2 ++ [c]) ++ stepC c j :: r := by simp
                          have e3 := idx_at (pre := pre2 ++ [c]) (rest := r) (c := stepC c j) (by rw [← e2]; exact hnd)
                          rw [← e2] at e3
                          rw [e1, e3]
                          simp
                          omega
            · gi_wp2_with fail
              refine bodyPost_ret (results_none rfl _ _ _) rfl ?_
              exact ⟨⟨_, rfl⟩, .inr ⟨O1, _, trivial, hj4⟩⟩
    · gi_wp2_with fail
      go_end0
      have e : m = n + 1 := by omega
      subst e
      exact ⟨⟨_, rfl⟩, .inl ⟨O, pre, by rw [hpre, flatK_all], hj⟩⟩
end Go.Proofs.Ytndgaklcnhoddaa
namespace Go.Proofs.Ytndgaklcnhoddaa
open Go.RowKit Go.Shelf

attribute [local go_sem] Oper.semAt_some
noncomputable def waitErr (ks s : List Int) : Int := if stErr ks s ≠ 0 then stErr ks s else if (waitL ks s).isSome then 0 else 17
noncomputable def waitLL (ks s : List Int) : List Int := if stErr ks s ≠ 0 then [] else (waitL ks s).getD []
theorem wait1_pulls {W : World} {b : Nat} {pa : Option Addr} {n pcap : Nat} {ps : List Int} (k1 : W.cell? ⟨b, 0, none⟩ = some (.slice pa n pcap)) (hp : IsInts W .i64 (.slice pa n pcap) ps) :
    Pulls W (.func (.func 89) #[] #[.pointer (some ⟨b, 0, none⟩)]) (notIn ps) :=
  ⟨89, #[.pointer (some ⟨b, 0, none⟩)], rfl, fun args W => Try.call89 args W, fun i W' _ hE => by
    have k2 := cell_ext hE k1
    have HP := Lib.hid (hp.ext hE)
    clear hp k1 hE
    go_enter Try.func89, Try.ntmps89
    go_wp2_with fail
    refine callGr (contains_any ps i _ _ HP.out) fun g => ?_
    go_wp2_with fail
    go_ret
    exact ⟨ret_bool (by simp [notIn]), grow_below W' g⟩⟩
theorem find_none_of {α : Type} {p : α → Bool} {l : List α} (h : ∀ x ∈ l, p x = false) : l.find? p = none := by
  rw [List.find?_eq_none]
  intro x hx
  rw [h x hx]; simp
theorem find_some_of {α : Type} {p : α → Bool} {l pre rest : List α} {x : α} (e : l = pre ++ x :: rest) (h : ∀ y ∈ pre, p y = false) (hx : p x = true) : l.find? p = some x := by
  rw [e, List.find?_append, find_none_of h]
  simp [hx]
set_option maxRecDepth 100000 in
set_option maxHeartbeats 4000000 in
theorem wait_in (ks s : List Int) (kv lv : Value) (w : World) (hv : IsInts w .i64 kv ks) (hl : IsInts w .i64 lv s) :
    CallsIn Fence.wide 9 Try.prog 40 #[.agg #[kv], lv] w (RetL (waitLL ks s) (waitErr ks s) w) := by
  obtain ⟨sa, cap, rfl, h1, h2, -⟩ := hv.spec
  refine callsIn_of_wp_marks Try.func40 rfl trivial ?_ rfl
  simp only [Try.ntmps40, List.size_toArray, List.length_cons, List.length_nil, Nat.reduceAdd, Nat.reduceSub, Array.replicate_succ, Array.replicate_zero, List.push_toArray, List.append_toArray, List.nil_append, List.cons_append]
  have HV := Lib.hid hv
  have HL0 := Lib.hid hl
  clear hv hl
  refine wpIn_wide.2 ?_
  go_upto_region 1 with (fail)
  obtain ⟨W0, hW0⟩ : ∃ W0, W0 = ((w.alloc (.cells #[.slice sa ks.length cap] 24)).alloc (.cells #[.slice none 0 0] 22)).alloc (.cells #[.int .i64 0] 27) := ⟨_, rfl⟩
  have hE : Ext w W0 := by rw [hW0]; exact (by repeat (first | exact Below.refl _ _ | refine Ext.al ?_ _ | refine Ext.dr ?_ | refine Ext.drN ?_ _ | refine Ext.gr ?_ _ | refine Ext.set ?_ (by simp) _ | (refine Ext.trans' ?_ (by assumption))))
  have k0 : W0.cell? ⟨w.heap.size, 0, none⟩ = some (.slice sa ks.length cap) := by rw [hW0]; simp [go_sem]
  have k1 : W0.cell? ⟨w.heap.size + 1, 0, none⟩ = some (.slice none 0 0) := by rw [hW0]; simp [go_sem]
  have k2 : W0.cell? ⟨w.heap.size + 1 + 1, 0, none⟩ = some (.int .i64 0) := by rw [hW0]; simp [go_sem]
  have f1 : W0.frozen? ⟨w.heap.size + 1, 0, none⟩ = false := by rw [hW0]; simp [go_sem]
  have f2 : W0.frozen? ⟨w.heap.size + 1 + 1, 0, none⟩ = false := by rw [hW0]; simp [go_sem]
  have hz : w.heap.size + 1 + 1 < W0.heap.size := World.block_lt_of_cell? _ _ k2
  have HS := Lib.hid (HV.out.ext hE)
  have HL := Lib.hid (HL0.out.ext hE)
  have HW := Lib.hid hE
  rw [← hW0]
  clear hW0 HV HL0 hE
  go_wp2_with fail
  refine (open_any ks s _ _ W0 HS.out HL.out).mono ?_
  rintro e W1 (⟨hne, rfl, hE1⟩ | ⟨h0, p, rfl, hE1, hT1⟩)
  · obtain ⟨er, her⟩ : ∃ er, er = stErr ks s := ⟨_, rfl⟩
    rw [← her] at hne ⊢
    have e1 : (er == 0) = false := by simpa using hne
    have e2 : (er != 0) = true := by simpa using hne
    have HN := Lib.hid hne
    have HER := Lib.hid her
    have m1 := cell_ext hE1 k1
    have m2 := cell_ext hE1 k2
    have HE1 := Lib.hid hE1
    have g1 := (HE1.out.frozen (p := ⟨w.heap.size + 1, 0, none⟩) (by simp only; omega)).trans f1
    have g2 := (HE1.out.frozen (p := ⟨w.heap.size + 1 + 1, 0, none⟩) (by simp only; omega)).trans f2
    have hz1 := hE1.size
    have hb1 : w.heap.size + 1 < W1.heap.size := by omega
    have hb2 : w.heap.size + 1 + 1 < W1.heap.size := by omega
    rw [stV_eq]
    clear hne her hE1 k0 k1 k2 f1 f2
    go_upto_region 2 with (fail)
    obtain ⟨Z, hZ⟩ : ∃ Z, (W1.alloc (.cells #[.pointer none] 83)).alloc (.cells #[.int .i64 (gt [] 0), .int .i64 (gt [] 1), .int .i64 (gt [] 2), .int .i64 (gt [] 3), .int .i64 (gt [] 4)] 73) = Z := ⟨_, rfl⟩
    have hEZ : Ext W1 Z := by rw [← hZ]; exact (by repeat (first | exact Below.refl _ _ | refine Ext.al ?_ _ | refine Ext.dr ?_ | refine Ext.drN ?_ _ | refine Ext.gr ?_ _ | refine Ext.set ?_ (by simp) _ | (refine Ext.trans' ?_ (by assumption))))
    rw [hZ]
    have n1 := cell_ext hEZ m1
    have n2 := cell_ext hEZ m2
    have q1 := (hEZ.frozen (p := ⟨w.heap.size + 1, 0, none⟩) (by simp only; omega)).trans g1
    have q2 := (hEZ.frozen (p := ⟨w.heap.size + 1 + 1, 0, none⟩) (by simp only; omega)).trans g2
    have HEZ := Lib.hid (HW.out.trans' (HE1.out.trans' hEZ))
    clear hZ hEZ m1 m2 g1 g2
    go_wp2_with fail
    refine ⟨.tuple #[.slice none 0 0, .int .i64 er], by simp [results, Try.results40, go_sem, n1, n2], ?_⟩
    refine ⟨_, by unfold waitErr; rw [if_pos (by rw [← HER.out]; exact HN.out), HER.out], (HEZ.out.setCell (by simp only; omega) _).setCell (by simp only; omega) _, ?_⟩
    unfold waitLL; rw [if_pos (by rw [← HER.out]; exact HN.out)]; exact IsInts.nil _ _
  · obtain ⟨v, hst⟩ := stErr_ok h0
    have n5 := v.n5
    have V := Lib.hid v
    have HST := Lib.hid hst
    have H0 := Lib.hid h0
    have hz1 := hE1.size
    have k3 := cell_ext hE1 k0
    have m1 := cell_ext hE1 k1
    have m2 := cell_ext hE1 k2
    have g1 := (hE1.frozen (p := ⟨w.heap.size + 1, 0, none⟩) (by simp only; omega)).trans f1
    have g2 := (hE1.frozen (p := ⟨w.heap.size + 1 + 1, 0, none⟩) (by simp only; omega)).trans f2
    have HT1 := Lib.hid hT1
    have HE1 := Lib.hid hE1
    rw [stV_eq]
    clear v hst h0 hT1 hE1 k0 k1 k2 f1 f2
    go_upto_region 2 with (fail)
    obtain ⟨Z, hZ⟩ : ∃ Z, (W1.alloc (.cells #[.pointer (some ⟨p, 0, none⟩)] 83)).alloc (.cells #[.int .i64 (gt s 0), .int .i64 (gt s 1), .int .i64 (gt s 2), .int .i64 (gt s 3), .int .i64 (gt s 4)] 73) = Z := ⟨_, rfl⟩
    have hEZ : Ext W1 Z := by rw [← hZ]; exact (by repeat (first | exact Below.refl _ _ | refine Ext.al ?_ _ | refine Ext.dr ?_ | refine Ext.drN ?_ _ | refine Ext.gr ?_ _ | refine Ext.set ?_ (by simp) _ | (refine Ext.trans' ?_ (by assumption))))
    have hsZ : Z.heap.size = W1.heap.size + 2 := by rw [← hZ]; simp
    have hpZ : Z.cell? ⟨W1.heap.size, 0, none⟩ = some (.pointer (some ⟨p, 0, none⟩)) := by rw [← hZ]; simp [go_sem]
    have hbZ : StB Z (W1.heap.size + 1) s := by
      have := StB.new (W1.alloc (.cells #[.pointer (some ⟨p, 0, none⟩)] 83)) s
      rw [World.size_alloc] at this
      rw [← hZ]; exact this
    rw [hZ]
    have k4 := cell_ext hEZ k3
    have n1 := cell_ext hEZ m1
    have n2 := cell_ext hEZ m2
    have q1 := (hEZ.frozen (p := ⟨w.heap.size + 1, 0, none⟩) (by simp only; omega)).trans g1
    have q2 := (hEZ.frozen (p := ⟨w.heap.size + 1 + 1, 0, none⟩) (by simp only; omega)).trans g2
    have HTZ := Lib.hid (HT1.out.ext hEZ)
    have HEZ := Lib.hid (HW.out.trans' (HE1.out.trans' hEZ))
    have HBZ := Lib.hid hbZ
    clear hZ hEZ m1 m2 g1 g2 k3 hbZ HT1
    go_wp2_with fail
    refine (subs_any ks.length Z).mono ?_
    rintro e W5 ⟨rfl, hE5, hb5, hz5⟩
    rw [hsZ] at hb5 hz5
    have t1 := cell_ext hE5 n1
    have t2 := cell_ext hE5 n2
    have u1 := (hE5.frozen (p := ⟨w.heap.size + 1, 0, none⟩) (by simp only; omega)).trans q1
    have u2 := (hE5.frozen (p := ⟨w.heap.size + 1 + 1, 0, none⟩) (by simp only; omega)).trans q2
    have hp5 := cell_ext hE5 hpZ
    have HB5 := Lib.hid (HBZ.out.ext hE5)
    have HT5 := Lib.hid (HTZ.out.ext hE5)
    have HE5 := Lib.hid (HEZ.out.trans' hE5)
    clear hE5 n1 n2 q1 q2 hpZ HBZ HTZ k4
    go_wp2_with fail
    go_outline
    refine (wpIn_wide (n := 9)).1 ?_
    refine rangeOverW (n := 9) (R := fun k => k < W5.heap.size) rfl (enters_of Try.func105 (by kernel_rfl) rfl)
      (subs_iter ks.length n5 (fun k => k < W5.heap.size) (W1.heap.size + 2) W5 (fun k hk => hk) (by omega) hb5) (Below.refl _ _) (fun k hk => hk) (fun _ => rfl)
      (fun O pre W => (∀ k, O k → W5.heap.size ≤ k) ∧ W5.heap.size ≤ W.heap.size ∧ Ext W5 W ∧ ∀ x ∈ pre, leadsL ks (notIn x.2) s = [])
      (fun c O pre W => c = .ret ∧ (∀ k, O k → W5.heap.size ≤ k) ∧ W5.heap.size ≤ W.heap.size ∧ Ext w W ∧ ∃ va vn vc l, waitL ks s = some l ∧ W.cell? ⟨w.heap.size + 1, 0, none⟩ = some (.slice va vn vc) ∧ W.cell? ⟨w.heap.size + 1 + 1, 0, none⟩ = some (.int .i64 0) ∧ Owns W (W5.heap.size + 2) 3 1 (.slice va vn vc) (l.map iRow) ∧ ∀ g, (Value.slice va vn vc).ownBlock = some g → ¬ O g)
      ?bears ?bearx ⟨fun _ h => h.elim, Nat.le_refl _, Below.refl _ _, fun _ h => (by cases h)⟩ ?round ?done ?stop
    case bears =>
      rintro pre O O' A B ⟨g1, g2, g3, g4⟩ hk hO1 hO2
      have hlow : Kept (fun k => k < W5.heap.size) A B := hk.mono fun k _ hk => ⟨fun ho => by have := g1 k ho; omega, by omega⟩
      refine ⟨fun k hk2 => ?_, by have := hk.size; omega, g3.trans (Kept.below (hlow.mono fun k _ h => by omega) g3.size), g4⟩
      rcases hO2 k hk2 with h | h
      · exact g1 k h
      · omega
    case bearx =>
      rintro c pre O O' A B ⟨rfl, g1, g2, g3, va, vn, vc, l, g4, g5, g6, g7, g8⟩ hk hO1 hO2
      have hlow : Kept (fun k => k < W5.heap.size) A B := hk.mono fun k _ hk => ⟨fun ho => by have := g1 k ho; omega, by omega⟩
      refine ⟨rfl, fun k hk2 => ?_, by have := hk.size; omega, g3.trans (Kept.below (hlow.mono fun k _ h => by have := HE5.out.size; omega) g3.size), va, vn, vc, l, g4, hlow.cell g5 (by simp only; omega), hlow.cell g6 (by simp only; omega), g7.keptAt hk (fun g cur h1 h2 _ => ⟨g8 g h2, by omega⟩), fun g hg ho => ?_⟩
      · rcases hO2 k hk2 with h | h
        · exact g1 k h
        · omega
      · rcases hO2 g ho with h | h
        · exact g8 g hg h
        · have := (g7.notOwn g hg).2; omega
    case round =>
      rintro l O pre ⟨xv, xl⟩ W ⟨g1, g2, g3, g4⟩ ⟨⟨rest, hrest⟩, hown, hno⟩ hO2 hW2
      obtain ⟨va, vn, vc, rfl⟩ := hown.isSlice
      simp only at hrest hown hno
      gi_wp2_with fail
      refine ⟨(by repeat (first | exact Below.refl _ _ | refine Ext.al ?_ _ | refine Ext.dr ?_ | refine Ext.drN ?_ _ | refine Ext.gr ?_ _ | refine Ext.set ?_ (by simp) _ | (refine Ext.trans' ?_ (by assumption)))), fun W2 hk2 => ?_⟩
      have hEa : Ext W (W.alloc (.cells #[.slice va vn vc] 22)) := (by repeat (first | exact Below.refl _ _ | refine Ext.al ?_ _ | refine Ext.dr ?_ | refine Ext.drN ?_ _ | refine Ext.gr ?_ _ | refine Ext.set ?_ (by simp) _ | (refine Ext.trans' ?_ (by assumption))))
      have hbox : W2.cell? ⟨W.heap.size, 0, none⟩ = some (.slice va vn vc) := hk2.cell (by simp [go_sem]) (by simp only; omega)
      have hz2 := hk2.size
      simp only [World.size_alloc] at hz2
      have hE2 : Ext W5 W2 := (g3.trans' hEa).trans (Kept.below (hk2.mono fun k _ h => by omega) (by have := g3.size; simp; omega))
      have hown2 : Owns W2 (W5.heap.size + 2) 3 1 (.slice va vn vc) (xl.map iRow) := (hown.ext hEa).keptAt hk2 (fun g cur h1 _ _ => by omega)
      have hp2 := cell_ext hE2 hp5
      have hb2 := HB5.out.ext hE2
      have c0z := (hb2).c 0 (by omega)
      have c1z := (hb2).c 1 (by omega)
      have c2z := (hb2).c 2 (by omega)
      have c3z := (hb2).c 3 (by omega)
      have c4z := (hb2).c 4 (by omega)
      have cfz := (hb2).free
      have czz := (hb2).lt
      have hT2 := HT5.out.ext hE2
      have hlead := leads_any ks s p (FofR ks (rkN ks)) _ (notIn xl) W2 V.out HST.out hT2.hd hT2.mp (wait1_pulls hbox hown2.oneInts)
      rw [leadsF_eq V.out HST.out, stV_eq] at hlead
      have x1 := cell_ext hE2 t1
      have x2 := cell_ext hE2 t2
      have y1 := (hE2.frozen (p := ⟨w.heap.size + 1, 0, none⟩) (by simp only; omega)).trans u1
      have y2 := (hE2.frozen (p := ⟨w.heap.size + 1 + 1, 0, none⟩) (by simp only; omega)).trans u2
      have HLEAD := Lib.hid hlead
      have HOWN := Lib.hid hown2
      have HNO := Lib.hid hno
      have HE2 := Lib.hid hE2
      have G4 := Lib.hid g4
      have HREST := Lib.hid hrest
      have hb5' : w.heap.size + 1 + 1 < W5.heap.size := by omega
      clear hEa hE2 hown2 hb2 hT2 hlead hown hno g3 g4 hrest hk2
      gi_wp2_with fail
      refine ⟨trivial, (CallsIn.inRound l (callsIn_wide.2 HLEAD.out)).mono ?_⟩
      rintro e W3 ⟨r, rfl, hE3, hr⟩
      obtain ⟨ra, rc, rfl, hr1, hr2, -⟩ := hr.spec
      obtain ⟨L, hL⟩ : ∃ L, L = leadsL ks (notIn xl) s := ⟨_, rfl⟩
      rw [← hL] at hr1 ⊢
      have HL2 := Lib.hid hL
      obtain ⟨m, hm⟩ : ∃ m, m = L.length := ⟨_, rfl⟩
      rw [← hm] at hr1 ⊢
      have HM := Lib.hid hm
      have z1 := cell_ext hE3 x1
      have z2 := cell_ext hE3 x2
      have z3 := cell_ext hE3 hbox
      have v1 := (hE3.frozen (p := ⟨w.heap.size + 1, 0, none⟩) (by simp only; omega)).trans y1
      have v2 := (hE3.frozen (p := ⟨w.heap.size + 1 + 1, 0, none⟩) (by simp only; omega)).trans y2
      have hz3 := hE3.size
      have HE3 := Lib.hid hE3
      clear hE3 hr hL hm x1 x2 y1 y2 hbox HLEAD c0z c1z c2z c3z c4z cfz czz hp2
      by_cases h0 : m = 0
      · have hm0 : ¬ ((m : Int) > 0) := by omega
        have hm1 : ¬ ((0 : Int) < (m : Int)) := by omega
        have hm2 : ¬ (0 < m) := by omega
        have HM0 := Lib.hid h0
        clear h0
        gi_wp2_with fail
        refine ⟨.of_below HE3.out, g1, by omega, HE2.out.trans' HE3.out, fun x hx => ?_⟩
        rcases List.mem_append.1 hx with hx | hx
        · exact G4.out x hx
        · simp at hx
          subst hx
          rw [← HL2.out]
          exact List.eq_nil_of_length_eq_zero (by rw [← HM.out]; exact HM0.out)
      · have hm0 : (m : Int) > 0 := by omega
        have hm1 : (0 : Int) < (m : Int) := by omega
        have hm2 : 0 < m := by omega
        clear h0
        gi_wp2_with fail
        refine ⟨((Kept.of_below HE3.out).setCell (fun _ h => by simp only at h; omega) _).setCell (fun _ h => by simp only at h; omega) _, rfl, g1, by simp [World.setCell]; omega,
          ((HE5.out.trans' (HE2.out.trans' HE3.out)).setCell (by simp only; omega) _).setCell (by simp only; omega) _, va, vn, vc, xl, ?_, ?_, ?_, ?_, HNO.out⟩
        · unfold waitL
          refine find_some_of HREST.out (fun y hy => ?_) ?_
          · obtain ⟨x, hx, rfl⟩ := List.mem_map.1 hy
            rw [G4.out x hx]; rfl
          · rw [← HL2.out]
            cases e : L with
            | nil => have := HM.out; rw [e] at this; simp at this; omega
            | cons a t => rfl
        · simp [go_sem, z1]
        · simp [go_sem, z2]
        · exact (HOWN.out.ext HE3.out).keptAt (((Kept.refl (fun k => k ≠ w.heap.size + 1 ∧ k ≠ w.heap.size + 1 + 1) W3).setCell (fun _ h => h.1 rfl) _).setCell (fun _ h => h.2 rfl) _) (fun g cur h1 _ _ => ⟨by omega, by omega⟩)
    case done =>
      rintro D O xs W hD hS ⟨g1, g2, g3, g4⟩ hDk
      have x1 := cell_ext g3 t1
      have x2 := cell_ext g3 t2
      have y1 := (g3.frozen (p := ⟨w.heap.size + 1, 0, none⟩) (by simp only; omega)).trans u1
      have y2 := (g3.frozen (p := ⟨w.heap.size + 1 + 1, 0, none⟩) (by simp only; omega)).trans u2
      have hxb : w.heap.size + 1 + 1 < W.heap.size := by omega
      have HDK := Lib.hid hDk
      have HEW := Lib.hid (HE5.out.trans' g3)
      have hDlt := (Array.getElem?_eq_some_iff.1 hDk).1
      have hfn : waitL ks s = none := by
        unfold waitL
        rw [← hS]
        refine find_none_of fun x hx => ?_
        obtain ⟨y, hy, rfl⟩ := List.mem_map.1 hx
        rw [g4 y hy]; rfl
      have HFN := Lib.hid hfn
      clear hDk g1 g3 g4 hS hfn
      go_wp2_with fail
      have hDK' := (Below.heap_setCell _ ⟨w.heap.size + 1 + 1, 0, none⟩ (.int .i64 17) D (by simp only; omega)).trans ((Below.heap_setCell W ⟨w.heap.size + 1, 0, none⟩ (.slice none 0 0) D (by simp only; omega)).trans HDK.out)
      have hc1 : ((W.setCell ⟨w.heap.size + 1, 0, none⟩ (.slice none 0 0)).setCell ⟨w.heap.size + 1 + 1, 0, none⟩ (.int .i64 17)).cell? ⟨w.heap.size + 1, 0, none⟩ = some (.slice none 0 0) := by simp [go_sem, x1]
      have hc2 : ((W.setCell ⟨w.heap.size + 1, 0, none⟩ (.slice none 0 0)).setCell ⟨w.heap.size + 1 + 1, 0, none⟩ (.int .i64 17)).cell? ⟨w.heap.size + 1 + 1, 0, none⟩ = some (.int .i64 17) := by simp [go_sem, x2]
      obtain ⟨V2, hV2⟩ : ∃ V2, V2 = (W.setCell ⟨w.heap.size + 1, 0, none⟩ (.slice none 0 0)).setCell ⟨w.heap.size + 1 + 1, 0, none⟩ (.int .i64 17) := ⟨_, rfl⟩
      have hEV : Ext w V2 := by rw [hV2]; exact (HEW.out.setCell (by simp only; omega) _).setCell (by simp only; omega) _
      rw [← hV2] at hDK' hc1 hc2 ⊢
      refine ⟨by simp, .inl ⟨_, _, rfl, run_takeDeferred hDK', ?_⟩⟩
      have hkd : Kept (fun k => k ≠ D) V2 (V2.putObj D (.deferred none)) := (Kept.refl _ V2).putObj _ (fun _ h => h rfl)
      have d1 := hkd.cell hc1 (by simp only; omega)
      have d2 := hkd.cell hc2 (by simp only; omega)
      refine ⟨.tuple #[.slice none 0 0, .int .i64 17], by simp [results, Try.results40, go_sem, d1, d2], .slice none 0 0, ?_, ?_, ?_⟩
      · unfold waitErr; rw [if_neg (fun h => h H0.out), HFN.out]; rfl
      · exact hEV.trans (Kept.below (hkd.mono fun k _ h => by have := HE5.out.size; omega) hEV.size)
      · unfold waitLL; rw [if_neg (fun h => h H0.out), HFN.out]; exact IsInts.nil _ _
    case stop =>
      rintro D O c pre W hD - ⟨rfl, g1, g2, g3, va, vn, vc, l, g4, g5, g6, g7, g8⟩ hDk
      have HDK := Lib.hid hDk
      gi_wp2
      refine ⟨by simp, .inl ⟨_, _, rfl, run_takeDeferred HDK.out, ?_⟩⟩
      have hkd : Kept (fun k => k ≠ D) W (W.putObj D (.deferred none)) := (Kept.refl _ W).putObj _ (fun _ h => h rfl)
      have d1 := hkd.cell g5 (by simp only; omega)
      have d2 := hkd.cell g6 (by simp only; omega)
      refine ⟨.tuple #[.slice va vn vc, .int .i64 0], by simp [results, Try.results40, go_sem, d1, d2], .slice va vn vc, ?_, ?_, ?_⟩
      · unfold waitErr; rw [if_neg (fun h => h H0.out), g4]; rfl
      · exact g3.trans (Kept.below (hkd.mono fun k _ h => by have := HE5.out.size; omega) g3.size)
      · unfold waitLL; rw [if_neg (fun h => h H0.out), g4]; exact (g7.putOther HDK.out _).oneInts
theorem wait_any (ks s : List Int) (kv lv : Value) (w : World) (hv : IsInts w .i64 kv ks) (hl : IsInts w .i64 lv s) :
    Calls Try.prog 40 #[.agg #[kv], lv] w (RetL (waitLL ks s) (waitErr ks s) w) := callsIn_wide.1 (wait_in ks s kv lv w hv hl)
end Go.Proofs.Ytndgaklcnhoddaa
namespace Go.Proofs.Ytndgaklcnhoddaa
open Go.RowKit Go.Shelf
set_option maxRecDepth 100000 in
set_option maxHeartbeats 2000000 in
theorem longest1_any (ks : List Int) (p bt bi : Nat) (i x : Nat) (w : World) (v : TVal ks) (hrw : TRw w p ks (rkN ks)) (ht : w.cell? ⟨bt, 0, none⟩ = some (.pointer (some ⟨p, 0, none⟩))) (hi : w.cell? ⟨bi, 0, none⟩ = some (.int .i64 i)) (hiN : i < nSt ks) (hx : x < nSt ks) :
    Calls Try.prog 107 #[.int .i64 x, .pointer (some ⟨bt, 0, none⟩), .pointer (some ⟨bi, 0, none⟩)] w fun e W => e = .returned (.bool (decide (rkN ks x = rkN ks i - 1))) ∧ Ext w W := by
  obtain ⟨rb, ro, rc, c3, r1, r2, hrows⟩ := hrw
  have ci := hrows i hiN
  have cx := hrows x hx
  have hbi := rkN_bd v (i : Int)
  have hbx := rkN_bd v (x : Int)
  obtain ⟨N, hN⟩ : ∃ N, N = nSt ks := ⟨_, rfl⟩
  obtain ⟨ri, hri⟩ : ∃ ri, ri = rkN ks (i : Int) := ⟨_, rfl⟩
  obtain ⟨rx, hrx⟩ : ∃ rx, rx = rkN ks (x : Int) := ⟨_, rfl⟩
  rw [← hri] at ci hbi ⊢
  rw [← hrx] at cx hbx ⊢
  rw [← hN] at c3 hiN hx r1
  have hii : (i : Int) < (N : Int) := by omega
  have hxi : (x : Int) < (N : Int) := by omega
  have hw1 : IntKind.i64.wrap (ri - 1) = ri - 1 := IntWalk.i64_in _ (by omega)
  have hbe : (rx == ri - 1) = decide (rx = ri - 1) := rfl
  have HBE := Lib.hid hbe
  clear hrows hri hrx hN hbe v
  go_enter Try.func107, Try.ntmps107
  go_upto_region 1 with (fail)
  go_quiet (fail)
  go_wp2_with fail
  go_ret
  exact ⟨ret_bool HBE.out, Ext.drN (Below.refl _ _) _⟩
theorem first_any (l : List Int) (sa : Option Addr) (cap : Nat) (f : Nat) (cs : Array Value) (p : Int → Bool) (w : World) (hl : l.length ≤ 1000)
    (hs : IsInts w .i64 (.slice sa l.length cap) l) (hcall : ∀ args W, (callFunc f args).run Try.prog W = .ok (.enter f args) W)
    (hf : ∀ x, x ∈ l → ∀ W, Ext w W → Calls Try.prog f (#[.int .i64 x] ++ cs) W fun e W' => e = .returned (.bool (p x)) ∧ Ext W W') :
    Calls Try.prog 106 #[.slice sa l.length cap, .func (.func f) #[] cs] w fun e w' => e = .returned (.int .i64 (fidx p l)) ∧ Ext w w' := by
  obtain ⟨_, _, e, _, _, hc⟩ := hs.spec
  cases e
  have H := Lib.hid (indexFuncInt l sa cap f cs p w (by omega) hc hcall hf)
  clear hf hc hs
  go_enter Try.func106, Try.ntmps106
  go_wp2_with fail
  refine H.out.mono ?_
  rintro e W ⟨rfl, hE⟩
  have HE := Lib.hid hE
  clear hE H
  go_wp2_with fail
  go_ret
  exact ⟨rfl, HE.out⟩
/-- the first visit after which as many turns are left as can be -/
theorem long_step {ks : List Int} (v : TVal ks) {i r : Nat} (_ : i < nSt ks) (hr : rkN ks i = ((r + 1 : Nat) : Int)) :
    ∃ (w j : Nat), fidx (fun x => decide (rkN ks x = rkN ks i - 1)) (nxN ks i) = w ∧ (nxN ks i)[w]? = some (j : Int) ∧ w < 5 ∧ j < nSt ks ∧ rkN ks j = r ∧ lastG ks (r + 1) (stOf ks i) = (w : Int) :: lastG ks r (stOf ks j) := by
  have hNe := nSt_eq v
  have hR : Rk (nxS ks) (stOf ks i) (r + 1) := by
    unfold rkN at hr
    rcases rowOf_cases (nxS ks) (stOf ks i) with ⟨e, _⟩ | ⟨k, e, h⟩
    · rw [e] at hr; omega
    · rw [e] at hr
      have : k = r + 1 := by omega
      subst this; exact h
  obtain ⟨w, hw, hf, hrw, hlast, hfirst⟩ := lastG_step hR
  have hst : isSt ks (stOf ks (i : Int)) = true := st_st v.nn
  have hvs : ∀ u, isSt ks (visit (upP allW (stOf ks i)) u) = true := fun u => visit_st (up_st hst hf) (fun j hj => by have := v.at_ j hj; omega) u
  have hnx : ∀ u, u < ks.length → (nxN ks i)[u]? = some (numS ks (visit (upP allW (stOf ks i)) u)) := fun u hu => by
    unfold nxN nxS
    rw [if_neg (by rw [hf]; simp)]
    simp [hu]
  have hlen : (nxN ks i).length = ks.length := by
    unfold nxN nxS
    rw [if_neg (by rw [hf]; simp)]
    simp
  have hrk : ∀ u, rkN ks (numS ks (visit (upP allW (stOf ks i)) u)) = rowOf (nxS ks) (visit (upP allW (stOf ks i)) u) := fun u => by
    unfold rkN; rw [st_num v.nn (hvs u)]
  have hb := numS_bd v.nn (hvs w)
  obtain ⟨j, hj⟩ : ∃ j : Nat, numS ks (visit (upP allW (stOf ks i)) w) = (j : Int) := ⟨_, (Int.toNat_of_nonneg hb.1).symm⟩
  have hgw : (nxN ks i)[w]'(by rw [hlen]; exact hw) = (j : Int) := by
    have := hnx w hw
    rw [List.getElem?_eq_getElem (by rw [hlen]; exact hw)] at this
    rw [Option.some.inj this, hj]
  have hjr : rkN ks j = r := by rw [← hj, hrk, rowOf_rk hrw]
  refine ⟨w, j, ?_, by rw [hnx w hw, hj], by have := v.n5; omega, by omega, hjr, ?_⟩
  · refine fidx_at (by rw [hlen]; exact hw) (fun x hx => ?_) (by rw [hgw, hjr, hr]; simp)
    rw [List.mem_take_iff_getElem] at hx
    obtain ⟨u, hu, rfl⟩ := hx
    have hu1 : u < w := by omega
    have e : (nxN ks i)[u]'(by omega) = numS ks (visit (upP allW (stOf ks i)) u) := by
      have := hnx u (by omega)
      rw [List.getElem?_eq_getElem (by rw [hlen]; omega)] at this
      exact Option.some.inj this
    rw [e, hrk, hr]
    simp only [decide_eq_false_iff_not]
    intro h
    refine hfirst u hu1 ?_
    rcases rowOf_cases (nxS ks) (visit (upP allW (stOf ks i)) u) with ⟨e2, _⟩ | ⟨k, e2, h2⟩
    · rw [e2] at h; omega
    · rw [e2] at h
      have : k = r := by omega
      subst this; exact h2
  · rw [hlast, ← hj, st_num v.nn (hvs w)]
set_option maxRecDepth 100000 in
set_option maxHeartbeats 4000000 in
theorem longest_any (ks s : List Int) (p r0 : Nat) (w : World) (v : TVal ks) (hst : isSt ks s = true) (ht : Tab w p ks) (hr0 : Rk (nxS ks) s r0) :
    Calls Try.prog 91 #[.pointer (some ⟨p, 0, none⟩), stV s] w fun e W => ∃ r, e = .returned r ∧ Ext w W ∧ IsInts W .i64 r (lastG ks r0 s) := by
  have hN := nSt_le v
  have hNe := nSt_eq v
  have n5 := v.n5
  have hnb := numS_bd v.nn hst
  have hr0b := rk_lt v hst hr0
  have hpr := v.pr
  have cn := fun W ht => num_any ks s p W v hst ht
  rw [stV_eq] at cn
  obtain ⟨s0, hs0⟩ : ∃ s0 : Nat, numS ks s = (s0 : Int) := ⟨(numS ks s).toNat, by omega⟩
  have hss : stOf ks (s0 : Int) = s := by rw [← hs0]; exact st_num v.nn hst
  have hrk0 : rkN ks (s0 : Int) = r0 := by unfold rkN; rw [hss]; exact rowOf_rk hr0
  rw [hs0] at cn hnb
  have hs0N : s0 < nSt ks := by omega
  have hlen0 := lastG_len hr0
  have CN := Lib.hid cn
  have V := Lib.hid v
  have HT := Lib.hid ht
  have HSS := Lib.hid hss
  have HRK := Lib.hid hrk0
  have HL0 := Lib.hid hlen0
  have hz := World.block_lt_of_cell? _ _ (ht.hd.choose_spec.choose_spec.1)
  simp only at hz
  have NE := Lib.hid hNe
  rw [stV_eq]
  clear cn v ht hst hss hrk0 hr0 hs0 hnb hNe hlen0
  go_enter Try.func91, Try.ntmps91
  go_wp2_with fail
  refine (CN.out _ (HT.out.hd.ext (by exact (by repeat (first | exact Below.refl _ _ | refine Ext.al ?_ _ | refine Ext.dr ?_ | refine Ext.drN ?_ _ | refine Ext.gr ?_ _ | refine Ext.set ?_ (by simp) _ | (refine Ext.trans' ?_ (by assumption))))))).mono ?_
  rintro e W1 ⟨rfl, hE1⟩
  have t1 : W1.cell? ⟨w.heap.size, 0, none⟩ = some (.pointer (some ⟨p, 0, none⟩)) := cell_ext hE1 (by simp [go_sem])
  have hEw : Ext w W1 := Ext.trans' (by exact (by repeat (first | exact Below.refl _ _ | refine Ext.al ?_ _ | refine Ext.dr ?_ | refine Ext.drN ?_ _ | refine Ext.gr ?_ _ | refine Ext.set ?_ (by simp) _ | (refine Ext.trans' ?_ (by assumption))))) hE1
  have HE1 := Lib.hid hEw
  have hz1 := World.block_lt_of_cell? _ _ t1
  simp only at hz1
  have HT1 := Lib.hid t1
  clear hE1 hEw CN t1
  go_wp2_with fail
  obtain ⟨W2, hW2⟩ : ∃ W2, W1.alloc (.cells #[.int .i64 s0] 3) = W2 := ⟨_, rfl⟩
  have hE2 : Ext W1 W2 := by rw [← hW2]; exact (by repeat (first | exact Below.refl _ _ | refine Ext.al ?_ _ | refine Ext.dr ?_ | refine Ext.drN ?_ _ | refine Ext.gr ?_ _ | refine Ext.set ?_ (by simp) _ | (refine Ext.trans' ?_ (by assumption))))
  have i2 : NumB W2 W1.heap.size 1 (fun _ => (s0 : Int)) := ⟨#[.int .i64 s0], by rw [← hW2]; exact World.alloc_heap_new W1 _, by simp, fun j hj => match j, hj with | 0, _ => rfl⟩
  rw [hW2]
  have HE12 := Lib.hid hE2
  have t2 := cell_ext hE2 HT1.out
  have HT2 := Lib.hid t2
  have HI2 := Lib.hid i2
  have hsz2 := hE2.size
  clear hW2 hE2 t2 i2 HT1
  go_loopw [5, 6] (fun ov iv W => ∃ (bi i r : Nat) (out : List Int), iv = .pointer (some ⟨bi, 0, none⟩) ∧ W1.heap.size ≤ bi ∧ NumB W bi 1 (fun _ => (i : Int)) ∧ i < nSt ks ∧ rkN ks i = r ∧ lastG ks r0 s = out ++ lastG ks r (stOf ks i) ∧ out.length + r = r0 ∧ Owns W W1.heap.size 3 1 ov (out.map iRow) ∧ (∀ g, ov.ownBlock = some g → g ≠ bi) ∧ W.cell? ⟨w.heap.size, 0, none⟩ = some (.pointer (some ⟨p, 0, none⟩)) ∧ Ext W1 W) (fun ov _ _ => r0 - slLen ov)
  case atStart => exact ⟨W1.heap.size, s0, r0, [], rfl, Nat.le_refl _, HI2.out, hs0N, HRK.out, by rw [HSS.out]; rfl, by simp, Owns.nil _ _ _ _, fun g hg => (by cases hg), HT2.out, HE12.out⟩
  case round =>
    obtain ⟨bi, i, r, out, rfl, hbi, hnum, hiN, hrk, hlast, hlr, hown, hne, ht, hE⟩ := hrel
    obtain ⟨oa, on, oc, rfl⟩ := hown.isSlice
    have hT := HT.out.ext (HE1.out.trans' hE)
    obtain ⟨rb, ro, rc, c3, r1, r2, hrows⟩ := hT.rw
    have ci := hrows i hiN
    rw [hrk] at ci
    have i0 := hnum.cell 0 (by omega)
    have ifr := hnum.free 0
    have hzi := hnum.lt
    have hzt := World.block_lt_of_cell? _ _ ht
    simp only at hzt
    have hon : on = out.length := by
      obtain ⟨_, _, e, _⟩ := hown.form
      simp only [Value.slice.injEq, List.length_map] at e
      exact e.2.1
    have HON := Lib.hid hon
    have HLA := Lib.hid hlast
    have HOWN := Lib.hid hown
    have HNE := Lib.hid hne
    have HEr := Lib.hid hE
    have HTr := Lib.hid hT
    have HRKi := Lib.hid hrk
    have HNUM := Lib.hid hnum
    obtain ⟨N, hN2⟩ : ∃ N, N = nSt ks := ⟨_, rfl⟩
    rw [← hN2] at c3 hiN r1
    have HN2 := Lib.hid hN2
    have hii : (i : Int) < (N : Int) := by omega
    clear hrows hrk hlast hown hE hT hnum hN2 hon hne
    by_cases h0 : r = 0
    · subst h0
      have hd : decide ((0 : Int) < ((0 : Nat) : Int)) = false := by decide
      go_upto_region 3 with (fail)
      go_quiet (fail)
      go_wp2_with fail
      go_ret
      have e : out = lastG ks r0 s := by rw [HLA.out]; simp [lastG]
      exact ⟨_, rfl, (HE1.out.trans' HEr.out).drN _, by rw [← e]; exact (HOWN.out.ext (Ext.drN (Below.refl _ _) _)).oneInts⟩
    · obtain ⟨r', rfl⟩ : ∃ r', r = r' + 1 := ⟨r - 1, by omega⟩
      have hd : decide ((0 : Int) < ((r' + 1 : Nat) : Int)) = true := decide_eq_true (by omega)
      obtain ⟨x, j, hfx, hnx, hx5, hjN, hrj, hlg⟩ := long_step V.out (by rw [← HN2.out]; exact hiN) HRKi.out
      obtain ⟨nb, no, nc, c2, n1, n2, hsN⟩ := HTr.out.nx
      obtain ⟨ea, ec, ce, hle⟩ := hsN i (by rw [← HN2.out]; exact hiN)
      have hlb := fun y hy => nxN_bd V.out (i := (i : Int)) (x := y) hy
      have hl5 := nxN_len (ks := ks) (i : Int)
      obtain ⟨l, hl⟩ : ∃ l, l = nxN ks (i : Int) := ⟨_, rfl⟩
      rw [← hl] at hfx hnx ce hle hlb hl5
      rw [← HN2.out] at c2 n1 hjN
      have hxl : x < l.length := (List.getElem?_eq_some_iff.1 hnx).1
      obtain ⟨_, _, e, _, _, hcc⟩ := hle.spec
      cases e
      rcases hcc with hcc | ⟨eb, eo, rfl, hcc⟩
      · rw [hcc] at hxl; simp at hxl
      have cj := hcc x hxl
      have hlx : l[x] = (j : Int) := (List.getElem?_eq_some_iff.1 hnx).2
      rw [hlx] at cj
      have hcall : ∀ W, Ext wr W → Calls Try.prog 106 #[.slice (some ⟨eb, eo, none⟩) l.length ec, .func (.func 107) #[] #[.pointer (some ⟨w.heap.size, 0, none⟩), .pointer (some ⟨bi, 0, none⟩)]] W fun e W' => e = .returned (.int .i64 x) ∧ Ext W W' := fun W hW => by
        rw [← hfx]
        refine first_any l (some ⟨eb, eo, none⟩) ec 107 _ _ W (by omega) (hle.ext hW) (fun args W => Try.call107 args W) fun y hy W' hW' => ?_
        have hyb := hlb y hy
        obtain ⟨yn, rfl⟩ : ∃ yn : Nat, y = (yn : Int) := ⟨y.toNat, by omega⟩
        exact longest1_any ks p w.heap.size bi i yn W' V.out (HTr.out.rw.ext (hW.trans' hW')) (cell_ext (hW.trans' hW') ht) (cell_ext (hW.trans' hW') i0) (by rw [← HN2.out]; exact hiN) (by have := NE.out; omega)
      have HCALL := Lib.hid hcall
      have HLG := Lib.hid hlg
      have HNX : Hid ((nxN ks (i : Int))[x]? = some (j : Int)) := Lib.hid (by rw [← hl]; exact hnx)
      have HRJ := Lib.hid hrj
      have hxi : (x : Int) < (l.length : Int) := by omega
      clear hsN hlb hl hle hcc hcall hlg hrj hfx hnx hlx
      go_upto_region 3 with (fail)
      go_quiet (fail)
      go_wp2_with fail
      obtain ⟨Y, hY⟩ : ∃ Y, wr.drewN nq = Y := ⟨_, rfl⟩
      have hEY : Ext wr Y := by rw [← hY]; exact Ext.drN (Below.refl _ _) _
      rw [hY]
      have tY := cell_ext hEY ht
      have c2Y := cell_ext hEY c2
      have i0Y := cell_ext hEY i0
      have ceY := cell_ext hEY ce
      have HEY := Lib.hid hEY
      have zY1 := World.block_lt_of_cell? _ _ tY
      have zY2 := World.block_lt_of_cell? _ _ c2Y
      have zY3 := World.block_lt_of_cell? _ _ i0Y
      have zY4 := World.block_lt_of_cell? _ _ ceY
      simp only at zY1 zY2 zY3 zY4
      clear hY hEY
      refine wp_region_rove (Y.heap.size) (Nat.le_refl _)
        [sqV (.pointer (some ⟨p, 0, none⟩)),
         sqV (.pointer (some ⟨p, 0, none⟩)),
         sqV (.pointer (some ⟨p, 2, none⟩)),
         sqV (.slice (some ⟨nb, no, none⟩) N nc),
         sqV (.int .i64 i),
         sqV (.pointer (some ⟨nb, no + i, none⟩)),
         sqV (.slice (some ⟨eb, eo, none⟩) l.length ec),
         sqV (.func (.func 107) #[] #[.pointer (some ⟨w.heap.size, 0, none⟩), .pointer (some ⟨bi, 0, none⟩)]),
         sqV (.int .i64 x),
         sqV (.int .i64 x)]
        [true, true, true, true, true, true, true, true, true, true] [false, false, false, false, false, false, false, false, false, false] [true, true, true, true, true, true, true, true, true, true] [true, true, true, true, true, true, true, true, true, true]
        (by kernel_rfl) (by kernel_rfl) (by decide +kernel) (by decide +kernel) (by decide +kernel) rfl ⟨rfl, rfl⟩ ⟨?s0, ?s1, ?s2, ?s3, ?s4, ?s5, ?s6, ?s7, ?s8, ?s9, trivial⟩ [some 19, some 20, some 21, some 22, some 23, some 24, some 25, some 26, some 27, some 7] rfl rfl ?send
      case s0 =>
        intro val ρ W hE hz hd hA hx
        have o0 : ρ (.tmp 2) = .pointer (some ⟨w.heap.size, 0, none⟩) := hA.old 2 (by decide)
        have f_tY := cell_below hE (by simp only; omega) tY
        clear hd
        exact runq_val (W' := W) (by simp [execOp, o0, f_tY, go_sem]) (Below.refl _ _) rfl
      case s1 =>
        intro val ρ W hE hz hd hA hx
        have d0 : ρ (.tmp 19) = .pointer (some ⟨p, 0, none⟩) := (hA.dep 0 (by decide) 19 rfl).trans (hd 0 (by decide))
        clear hd
        exact runq_val (W' := W) (by simp [execOp, d0, go_sem]) (Below.refl _ _) rfl
      case s2 =>
        intro val ρ W hE hz hd hA hx
        have d1 : ρ (.tmp 20) = .pointer (some ⟨p, 0, none⟩) := (hA.dep 1 (by decide) 20 rfl).trans (hd 1 (by decide))
        clear hd
        exact runq_val (W' := W) (by simp [execOp, d1, go_sem]) (Below.refl _ _) rfl
      case s3 =>
        intro val ρ W hE hz hd hA hx
        have d2 : ρ (.tmp 21) = .pointer (some ⟨p, 2, none⟩) := (hA.dep 2 (by decide) 21 rfl).trans (hd 2 (by decide))
        have f_c2Y := cell_below hE (by simp only; omega) c2Y
        clear hd
        exact runq_val (W' := W) (by simp [execOp, d2, f_c2Y, go_sem]) (Below.refl _ _) rfl
      case s4 =>
        intro val ρ W hE hz hd hA hx
        have o0 : ρ (.tmp 6) = .pointer (some ⟨bi, 0, none⟩) := hA.old 6 (by decide)
        have f_i0Y := cell_below hE (by simp only; omega) i0Y
        clear hd
        exact runq_val (W' := W) (by simp [execOp, o0, f_i0Y, go_sem]) (Below.refl _ _) rfl
      case s5 =>
        intro val ρ W hE hz hd hA hx
        have d3 : ρ (.tmp 22) = .slice (some ⟨nb, no, none⟩) N nc := (hA.dep 3 (by decide) 22 rfl).trans (hd 3 (by decide))
        have d4 : ρ (.tmp 23) = .int .i64 i := (hA.dep 4 (by decide) 23 rfl).trans (hd 4 (by decide))
        clear hd
        exact runq_val (W' := W) (by simp [execOp, d3, d4, hii, go_sem]) (Below.refl _ _) rfl
      case s6 =>
        intro val ρ W hE hz hd hA hx
        have d5 : ρ (.tmp 24) = .pointer (some ⟨nb, no + i, none⟩) := (hA.dep 5 (by decide) 24 rfl).trans (hd 5 (by decide))
        have f_ceY := cell_below hE (by simp only; omega) ceY
        clear hd
        exact runq_val (W' := W) (by simp [execOp, d5, f_ceY, go_sem]) (Below.refl _ _) rfl
      case s7 =>
        intro val ρ W hE hz hd hA hx
        have o0 : ρ (.tmp 2) = .pointer (some ⟨w.heap.size, 0, none⟩) := hA.old 2 (by decide)
        have o1 : ρ (.tmp 6) = .pointer (some ⟨bi, 0, none⟩) := hA.old 6 (by decide)
        clear hd
        exact runq_val (W' := W) (by simp [execOp, o0, o1, go_sem]) (Below.refl _ _) rfl
      case s8 =>
        intro val ρ W hE hz hd hA hx
        have d6 : ρ (.tmp 25) = .slice (some ⟨eb, eo, none⟩) l.length ec := (hA.dep 6 (by decide) 25 rfl).trans (hd 6 (by decide))
        have d7 : ρ (.tmp 26) = .func (.func 107) #[] #[.pointer (some ⟨w.heap.size, 0, none⟩), .pointer (some ⟨bi, 0, none⟩)] := (hA.dep 7 (by decide) 26 rfl).trans (hd 7 (by decide))
        clear hd
        refine runq_call 106 _ _ rfl #[.slice (some ⟨eb, eo, none⟩) l.length ec, .func (.func 107) #[] #[.pointer (some ⟨w.heap.size, 0, none⟩), .pointer (some ⟨bi, 0, none⟩)]] (hA.func _) (by simp [d6, d7]) (fun args W => Try.call106 args W) ((HCALL.out W (HEY.out.trans' hE)).mono ?_)
        rintro e w' ⟨rfl, hb⟩
        exact ⟨_, rfl, hb, rfl⟩
      case s9 =>
        intro val ρ W hE hz hd hA hx
        have d8 : ρ (.tmp 27) = .int .i64 x := (hA.dep 8 (by decide) 27 rfl).trans (hd 8 (by decide))
        clear hd
        exact runq_val (W' := W) (by simp [execOp, d8, go_sem]) (Below.refl _ _) rfl
      case send =>
        intro val WW hE hzz hv
        obtain ⟨r0, r1, r2, r3, r4, r5, r6, r7, r8, r9, -⟩ := hv
        have q0 : val 0 = .pointer (some ⟨p, 0, none⟩) := r0
        have q1 : val 1 = .pointer (some ⟨p, 0, none⟩) := r1
        have q2 : val 2 = .pointer (some ⟨p, 2, none⟩) := r2
        have q3 : val 3 = .slice (some ⟨nb, no, none⟩) N nc := r3
        have q4 : val 4 = .int .i64 i := r4
        have q5 : val 5 = .pointer (some ⟨nb, no + i, none⟩) := r5
        have q6 : val 6 = .slice (some ⟨eb, eo, none⟩) l.length ec := r6
        have q7 : val 7 = .func (.func 107) #[] #[.pointer (some ⟨w.heap.size, 0, none⟩), .pointer (some ⟨bi, 0, none⟩)] := r7
        have q8 : val 8 = .int .i64 x := r8
        have q9 : val 9 = .int .i64 x := r9
        clear r0 r1 r2 r3 r4 r5 r6 r7 r8 r9
        obtain ⟨g99, rfl⟩ := grow_of hE
        clear hE hzz
        simp only [putD, q0, q1, q2, q3, q4, q5, q6, q7, q8, q9]
        go_frame
        clear q0 q1 q2 q3 q4 q5 q6 q7 q8 q9
        obtain ⟨Z, hZ⟩ : ∃ Z, grow Y g99 = Z := ⟨_, rfl⟩
        have hEZ : Ext wr Z := by rw [← hZ]; exact HEY.out.trans' (grow_below Y g99)
        rw [hZ]
        have hEYZ : Ext Y Z := by rw [← hZ]; exact grow_below Y g99
        have HEZ := Lib.hid hEZ
        have tZ := cell_ext hEYZ tY
        have c2Z := cell_ext hEYZ c2Y
        have i0Z := cell_ext hEYZ i0Y
        have ceZ := cell_ext hEYZ ceY
        have cjZ := cell_ext hEZ cj
        have hszZ := hEYZ.size
        have hlenO : (out.map iRow).length + [iRow (x : Int)].length ≤ 1000000 := by rw [List.length_map]; show _ + 1 ≤ _; omega
        have HLO := Lib.hid hlenO
        have hxn : ¬ ((x : Int) < 0) := by omega
        clear hZ hEZ hEYZ tY c2Y i0Y ceY zY1 zY2 zY3 zY4 ht c2 i0 ce cj hlenO
        have hsz1 := HEr.out.size
        have hszr := HEZ.out.size
        go_wp2_with (at_builtin; refine wpAt rfl (.tmp 30) (.tmp 32) elInt rfl W1.heap.size rfl ((HOWN.out.ext HEZ.out).ext (by exact (by repeat (first | exact Below.refl _ _ | refine Ext.al ?_ _ | refine Ext.dr ?_ | refine Ext.drN ?_ _ | refine Ext.gr ?_ _ | refine Ext.set ?_ (by simp) _ | (refine Ext.trans' ?_ (by assumption)))))) Z.heap.size 0 1 [iRow (x : Int)] rfl (by simp [iRow]) (newRow _ (iRow (x : Int)) _) (by simp [iRow, Value.oneCell']) HLO.out (by simp; omega) ?_)
        intro v' W5 hown5 hk5 hat5
        obtain ⟨va, vn, vc, rfl⟩ := hown5.isSlice
        have hkk : Kept (fun k => some k ≠ (Value.slice oa on oc).ownBlock) Z W5 := ((Kept.refl _ Z).alloc _).trans hk5
        have hE5 : Ext W1 W5 := (HEr.out.trans' HEZ.out).trans (Kept.below (Kept.low (HOWN.out.ext HEZ.out) hkk (fun j h => h)) (by omega))
        have hnum5 : NumB W5 bi 1 (fun _ => (i : Int)) := (HNUM.out.of_heap (HEZ.out.block _ hzi)).of_heap (hkk.same _ (by omega) fun e => HNE.out bi e.symm rfl)
        have t5 : W5.cell? ⟨w.heap.size, 0, none⟩ = some (.pointer (some ⟨p, 0, none⟩)) := hkk.cell tZ fun e => by have := ((HOWN.out.ext HEZ.out).notOwn _ e.symm).1; simp only at this; omega
        have hT5 := HT.out.ext (HE1.out.trans' hE5)
        have hnb5 : ∀ g, (Value.slice va vn vc).ownBlock = some g → g ≠ bi ∧ g < W5.heap.size := fun g hg => by
          refine ⟨fun e => ?_, (hown5.notOwn g hg).2⟩
          rcases hat5 g hg with h | h
          · exact HNE.out g h e
          · have h9 : Z.heap.size + 1 ≤ g := by simpa using h
            omega
        have e1 : out.map iRow ++ [iRow (x : Int)] = (out ++ [(x : Int)]).map iRow := by simp
        rw [e1] at hown5
        have hvn : vn = on + 1 := by
          obtain ⟨_, _, e, _⟩ := hown5.form
          simp only [Value.slice.injEq, List.length_map, List.length_append] at e
          rw [e.2.1, HON.out]; rfl
        obtain ⟨nb, no, nc, c2, n1, n2, hsN⟩ := hT5.nx
        obtain ⟨ea, ec, ce, hle⟩ := hsN i (by rw [← HN2.out]; exact hiN)
        obtain ⟨l2, hl2⟩ : ∃ l2, l2 = nxN ks (i : Int) := ⟨_, rfl⟩
        have hxl2 : l2[x]? = some (j : Int) := by rw [hl2]; exact HNX.out
        rw [← hl2] at ce hle
        rw [← HN2.out] at c2
        have hx2 : x < l2.length := (List.getElem?_eq_some_iff.1 hxl2).1
        obtain ⟨_, _, e, _, _, hcc⟩ := hle.spec
        cases e
        rcases hcc with hcc | ⟨eb, eo, rfl, hcc⟩
        · rw [hcc] at hx2; simp at hx2
        have cj := hcc x hx2
        rw [(List.getElem?_eq_some_iff.1 hxl2).2] at cj
        have hxi2 : (x : Int) < (l2.length : Int) := by omega
        have i5 := hnum5.cell 0 (by omega)
        have if5 := hnum5.free 0
        have zi5 := hnum5.lt
        have HOWN5 := Lib.hid hown5
        have HNB5 := Lib.hid hnb5
        have HE5 := Lib.hid hE5
        have HNUM5 := Lib.hid hnum5
        have HVN := Lib.hid hvn
        have z5a := World.block_lt_of_cell? _ _ t5
        have z5b := World.block_lt_of_cell? _ _ c2
        have z5c := World.block_lt_of_cell? _ _ ce
        have z5d := World.block_lt_of_cell? _ _ cj
        simp only at z5a z5b z5c z5d
        clear hown5 hk5 hat5 hkk hE5 hnum5 hT5 hnb5 e1 hvn hsN hl2 hle hcc hxl2 tZ c2Z i0Z ceZ cjZ
        go_wp2_with fail
        refine wp_region_rove_tail rfl rfl (by kernel_rfl) (W5.heap.size) (Nat.le_refl _)
          [sqV (.pointer (some ⟨p, 0, none⟩)),
           sqV (.pointer (some ⟨p, 0, none⟩)),
           sqV (.pointer (some ⟨p, 2, none⟩)),
           sqV (.slice (some ⟨nb, no, none⟩) N nc),
           sqV (.int .i64 i),
           sqV (.pointer (some ⟨nb, no + i, none⟩)),
           sqV (.slice (some ⟨eb, eo, none⟩) l2.length ec),
           sqV (.int .i64 x),
           sqV (.pointer (some ⟨eb, eo + x, none⟩)),
           sqV (.int .i64 j)]
          [true, true, true, true, true, true, true, true, true, true] [false, false, false, false, false, false, false, false, false, false] [true, true, true, true, true, true, true, true, true, true] [true, true, true, true, true, true, true, true, true, true]
          (by kernel_rfl) (by kernel_rfl) (by decide +kernel) (by decide +kernel) (by decide +kernel) rfl ⟨rfl, rfl⟩ ⟨?s0, ?s1, ?s2, ?s3, ?s4, ?s5, ?s6, ?s7, ?s8, ?s9, trivial⟩ [some 34, some 35, some 36, some 37, some 38, some 39, some 40, some 41, some 42, some 43] rfl rfl ?send
        case s0 =>
          intro val ρ W hE hz hd hA hx
          have o0 : ρ (.tmp 2) = .pointer (some ⟨w.heap.size, 0, none⟩) := hA.old 2 (by decide)
          have f_t5 := cell_below hE (by simp only; omega) t5
          clear hd
          exact runq_val (W' := W) (by simp [execOp, o0, f_t5, go_sem]) (Below.refl _ _) rfl
        case s1 =>
          intro val ρ W hE hz hd hA hx
          have d0 : ρ (.tmp 34) = .pointer (some ⟨p, 0, none⟩) := (hA.dep 0 (by decide) 34 rfl).trans (hd 0 (by decide))
          clear hd
          exact runq_val (W' := W) (by simp [execOp, d0, go_sem]) (Below.refl _ _) rfl
        case s2 =>
          intro val ρ W hE hz hd hA hx
          have d1 : ρ (.tmp 35) = .pointer (some ⟨p, 0, none⟩) := (hA.dep 1 (by decide) 35 rfl).trans (hd 1 (by decide))
          clear hd
          exact runq_val (W' := W) (by simp [execOp, d1, go_sem]) (Below.refl _ _) rfl
        case s3 =>
          intro val ρ W hE hz hd hA hx
          have d2 : ρ (.tmp 36) = .pointer (some ⟨p, 2, none⟩) := (hA.dep 2 (by decide) 36 rfl).trans (hd 2 (by decide))
          have f_c2 := cell_below hE (by simp only; omega) c2
          clear hd
          exact runq_val (W' := W) (by simp [execOp, d2, f_c2, go_sem]) (Below.refl _ _) rfl
        case s4 =>
          intro val ρ W hE hz hd hA hx
          have o0 : ρ (.tmp 6) = .pointer (some ⟨bi, 0, none⟩) := hA.old 6 (by decide)
          have f_i5 := cell_below hE (by simp only; omega) i5
          clear hd
          exact runq_val (W' := W) (by simp [execOp, o0, f_i5, go_sem]) (Below.refl _ _) rfl
        case s5 =>
          intro val ρ W hE hz hd hA hx
          have d3 : ρ (.tmp 37) = .slice (some ⟨nb, no, none⟩) N nc := (hA.dep 3 (by decide) 37 rfl).trans (hd 3 (by decide))
          have d4 : ρ (.tmp 38) = .int .i64 i := (hA.dep 4 (by decide) 38 rfl).trans (hd 4 (by decide))
          clear hd
          exact runq_val (W' := W) (by simp [execOp, d3, d4, hii, go_sem]) (Below.refl _ _) rfl
        case s6 =>
          intro val ρ W hE hz hd hA hx
          have d5 : ρ (.tmp 39) = .pointer (some ⟨nb, no + i, none⟩) := (hA.dep 5 (by decide) 39 rfl).trans (hd 5 (by decide))
          have f_ce := cell_below hE (by simp only; omega) ce
          clear hd
          exact runq_val (W' := W) (by simp [execOp, d5, f_ce, go_sem]) (Below.refl _ _) rfl
        case s7 =>
          intro val ρ W hE hz hd hA hx
          have o0 : ρ (.tmp 7) = .int .i64 x := hA.old 7 (by decide)
          clear hd
          exact runq_val (W' := W) (by simp [execOp, o0, go_sem]) (Below.refl _ _) rfl
        case s8 =>
          intro val ρ W hE hz hd hA hx
          have d6 : ρ (.tmp 40) = .slice (some ⟨eb, eo, none⟩) l2.length ec := (hA.dep 6 (by decide) 40 rfl).trans (hd 6 (by decide))
          have d7 : ρ (.tmp 41) = .int .i64 x := (hA.dep 7 (by decide) 41 rfl).trans (hd 7 (by decide))
          clear hd
          exact runq_val (W' := W) (by simp [execOp, d6, d7, hxi2, go_sem]) (Below.refl _ _) rfl
        case s9 =>
          intro val ρ W hE hz hd hA hx
          have d8 : ρ (.tmp 42) = .pointer (some ⟨eb, eo + x, none⟩) := (hA.dep 8 (by decide) 42 rfl).trans (hd 8 (by decide))
          have f_cj := cell_below hE (by simp only; omega) cj
          clear hd
          exact runq_val (W' := W) (by simp [execOp, d8, f_cj, go_sem]) (Below.refl _ _) rfl
        case send =>
          intro val W6 hE6 hzz hv
          obtain ⟨-, -, -, -, -, -, -, -, -, r9, -⟩ := hv
          have q9 : val 9 = .int .i64 j := r9
          have i6 := cell_ext hE6 i5
          have if6 := (hE6.frozen (p := ⟨bi, 0, none⟩) zi5).trans if5
          have zi6 := World.block_lt_of_cell? _ _ i6
          simp only at zi6
          have t6 := cell_ext hE6 t5
          have HE6 := Lib.hid hE6
          simp only [putD, q9]
          go_frame
          clear r9 q9 hE6 hzz
          go_wp2_with fail
          have hk8 : Kept (fun k => k ≠ bi) W5 ((W6.setCell ⟨bi, 0, none⟩ (.int .i64 j)).alloc (.cells #[.int .i64 j] 3)) := (((Kept.of_below HE6.out).setCell (fun _ h => h rfl) _)).alloc _
          have hs8 : (W6.setCell ⟨bi, 0, none⟩ (.int .i64 j)).heap.size = W6.heap.size := by simp [World.setCell]
          have hl8 := HE6.out.size
          have hb1 := HE5.out.size
          go_roundw
          case rel =>
            refine ⟨W6.heap.size, j, r', out ++ [(x : Int)], rfl, by omega, ?_, by rw [← HN2.out]; exact hjN, HRJ.out, by rw [HLA.out, HLG.out]; simp, by simp; omega, HOWN5.out.keptAt hk8 (fun g cur _ hg _ => (HNB5.out g hg).1), fun g hg => by have := (HNB5.out g hg).2; omega, hk8.cell t5 (by simp only; omega), HE5.out.trans (Kept.below (hk8.mono fun k _ h => by omega) hb1)⟩
            refine ⟨#[.int .i64 j], ?_, by simp, fun k hk => match k, hk with | 0, _ => rfl⟩
            have := World.alloc_heap_new (W6.setCell ⟨bi, 0, none⟩ (.int .i64 j)) (.cells #[.int .i64 j] 3)
            rwa [hs8] at this
          case measure =>
            have h1 := HVN.out
            have h2 := HON.out
            simp [slLen]
            omega
end Go.Proofs.Ytndgaklcnhoddaa
namespace Go.Proofs.Ytndgaklcnhoddaa
open Go.RowKit Go.Shelf
noncomputable def lastsErr (ks s : List Int) : Int := if stErr ks s ≠ 0 then stErr ks s else if rowOf (nxS ks) s < 0 then 5 else 0
noncomputable def lastsL (ks s : List Int) : List Int := if lastsErr ks s = 0 then lastG ks (rowOf (nxS ks) s).toNat s else []
set_option maxRecDepth 100000 in
set_option maxHeartbeats 2000000 in
theorem lasts_any (ks s : List Int) (kv lv : Value) (w : World) (hv : IsInts w .i64 kv ks) (hl : IsInts w .i64 lv s) :
    Calls Try.prog 42 #[.agg #[kv], lv] w (RetL (lastsL ks s) (lastsErr ks s) w) := by
  obtain ⟨sa, cap, rfl, h1, h2, -⟩ := hv.spec
  have HV := Lib.hid hv
  have HL0 := Lib.hid hl
  clear hv hl
  go_enter Try.func42, Try.ntmps42
  go_upto_region 1 with (fail)
  obtain ⟨W0, hW0⟩ : ∃ W0, W0 = w.alloc (.cells #[.slice sa ks.length cap] 24) := ⟨_, rfl⟩
  have hE : Ext w W0 := by rw [hW0]; exact (by repeat (first | exact Below.refl _ _ | refine Ext.al ?_ _ | refine Ext.dr ?_ | refine Ext.drN ?_ _ | refine Ext.gr ?_ _ | refine Ext.set ?_ (by simp) _ | (refine Ext.trans' ?_ (by assumption))))
  have k0 : W0.cell? ⟨w.heap.size, 0, none⟩ = some (.slice sa ks.length cap) := by rw [hW0]; simp [go_sem]
  have hz : w.heap.size < W0.heap.size := World.block_lt_of_cell? _ _ k0
  have HS := Lib.hid (HV.out.ext hE)
  have HW := Lib.hid hE
  rw [← hW0]
  clear hW0 HV
  have HL := Lib.hid (HL0.out.ext hE)
  clear hE HL0
  go_wp2_with fail
  refine (open_any ks s _ _ W0 HS.out HL.out).mono ?_
  rintro e W1 (⟨hne, rfl, hE1⟩ | ⟨h0, p, rfl, hE1, hT1⟩)
  · obtain ⟨er, her⟩ : ∃ er, er = stErr ks s := ⟨_, rfl⟩
    rw [← her] at hne ⊢
    have e1 : (er == 0) = false := by simpa using hne
    have e2 : (er != 0) = true := by simpa using hne
    have HN := Lib.hid hne
    have HER := Lib.hid her
    have HE1 := Lib.hid hE1
    rw [stV_eq]
    clear hne her hE1
    go_wp2_with fail
    refine bodyPost_ret (v := .tuple #[.slice none 0 0, .int .i64 er]) (by simp [results, Try.results42, go_sem]) rfl ?_
    have hE2 : Ext w W1 := HW.out.trans' HE1.out
    have hle : lastsErr ks s = er := by unfold lastsErr; rw [if_pos (by rw [← HER.out]; exact HN.out), HER.out]
    refine ⟨_, by rw [hle], hE2.trans' (by exact (by repeat (first | exact Below.refl _ _ | refine Ext.al ?_ _ | refine Ext.dr ?_ | refine Ext.drN ?_ _ | refine Ext.gr ?_ _ | refine Ext.set ?_ (by simp) _ | (refine Ext.trans' ?_ (by assumption))))), ?_⟩
    unfold lastsL; rw [if_neg (by rw [hle]; exact HN.out)]; exact IsInts.nil _ _
  · obtain ⟨v, hst⟩ := stErr_ok h0
    have V := Lib.hid v
    have HST := Lib.hid hst
    have H0 := Lib.hid h0
    have hcf := fun W h1 h2 => isSafe_any ks s p (FofR ks (rkN ks)) W v hst h1 h2
    rw [safe_F v hst, stV_eq] at hcf
    obtain ⟨sb, hsb⟩ : ∃ sb : Bool, sb = decide (rowOf (nxS ks) s < 0) := ⟨_, rfl⟩
    rw [← hsb] at hcf
    have HCF := Lib.hid hcf
    have HSB := Lib.hid hsb
    rw [stV_eq]
    have HT1 := Lib.hid hT1
    have HE1 := Lib.hid hE1
    clear v hst h0 hT1 hE1 hcf hsb
    go_wp2_with fail
    refine (HCF.out _ (HT1.out.hd.ext (by exact (by repeat (first | exact Below.refl _ _ | refine Ext.al ?_ _ | refine Ext.dr ?_ | refine Ext.drN ?_ _ | refine Ext.gr ?_ _ | refine Ext.set ?_ (by simp) _ | (refine Ext.trans' ?_ (by assumption)))))) (HT1.out.mp.ext (by exact (by repeat (first | exact Below.refl _ _ | refine Ext.al ?_ _ | refine Ext.dr ?_ | refine Ext.drN ?_ _ | refine Ext.gr ?_ _ | refine Ext.set ?_ (by simp) _ | (refine Ext.trans' ?_ (by assumption))))))).mono ?_
    rintro e W2 ⟨rfl, hE2⟩
    have hb1 : StB (W1.alloc (.cells #[.int .i64 (gt s 0), .int .i64 (gt s 1), .int .i64 (gt s 2), .int .i64 (gt s 3), .int .i64 (gt s 4)] 73)) W1.heap.size s := StB.new W1 s
    have hb2 := hb1.ext hE2
    have hE12 : Ext W1 W2 := Ext.trans' (by exact (by repeat (first | exact Below.refl _ _ | refine Ext.al ?_ _ | refine Ext.dr ?_ | refine Ext.drN ?_ _ | refine Ext.gr ?_ _ | refine Ext.set ?_ (by simp) _ | (refine Ext.trans' ?_ (by assumption))))) hE2
    have HE12 := Lib.hid hE12
    have HT2 := Lib.hid (HT1.out.ext hE12)
    have c0s := (hb2).c 0 (by omega)
    have c1s := (hb2).c 1 (by omega)
    have c2s := (hb2).c 2 (by omega)
    have c3s := (hb2).c 3 (by omega)
    have c4s := (hb2).c 4 (by omega)
    have cfs := (hb2).free
    have czs := (hb2).lt
    clear hb1 hb2 hE2 hE12 HCF
    have hEw : Ext w W2 := HW.out.trans' (HE1.out.trans' HE12.out)
    have HEW := Lib.hid hEw
    clear hEw
    cases sb
    · have hnn : ¬ rowOf (nxS ks) s < 0 := by simpa using HSB.out.symm
      obtain ⟨r, hr, hR⟩ : ∃ r : Nat, rowOf (nxS ks) s = r ∧ Rk (nxS ks) s r := by
        rcases rowOf_cases (nxS ks) s with ⟨e, _⟩ | ⟨r, e, h⟩
        · rw [e] at hnn; omega
        · exact ⟨r, e, h⟩
      have HR := Lib.hid hr
      have HRK := Lib.hid hR
      clear hnn hr hR
      go_wp2_with fail
      refine (longest_any ks s p r W2 V.out HST.out HT2.out HRK.out).mono ?_
      rintro e W3 ⟨rv, rfl, hE3, hrow⟩
      obtain ⟨ra, rc, rfl, _, _, -⟩ := hrow.spec
      have hle : lastsErr ks s = 0 := by unfold lastsErr; rw [if_neg (fun h => h H0.out), if_neg (by have := HR.out; omega)]
      have hll : lastsL ks s = lastG ks r s := by unfold lastsL; rw [if_pos hle, HR.out]; rfl
      have HLE := Lib.hid hle
      have HLL := Lib.hid hll
      have HROW := Lib.hid hrow
      have HE3 := Lib.hid (HEW.out.trans' hE3)
      obtain ⟨n, hn⟩ : ∃ n, n = (lastG ks r s).length := ⟨_, rfl⟩
      rw [← hn] at HROW ⊢
      clear hle hll hrow hE3 hn
      go_wp2_with fail
      refine bodyPost_ret (v := .tuple #[.slice ra n rc, .int .i64 0]) (by simp [results, Try.results42, go_sem]) rfl ?_
      exact ⟨_, by rw [HLE.out], HE3.out, by rw [HLL.out]; exact HROW.out⟩
    · have hnn : rowOf (nxS ks) s < 0 := by simpa using HSB.out.symm
      have HNN := Lib.hid hnn
      clear hnn
      go_wp2_with fail
      refine bodyPost_ret (v := .tuple #[.slice none 0 0, .int .i64 5]) (by simp [results, Try.results42, go_sem]) rfl ?_
      have hle : lastsErr ks s = 5 := by unfold lastsErr; rw [if_neg (fun h => h H0.out), if_pos HNN.out]
      refine ⟨_, by rw [hle], HEW.out, ?_⟩
      unfold lastsL; rw [if_neg (by rw [hle]; decide)]; exact IsInts.nil _ _
end Go.Proofs.Ytndgaklcnhoddaa
namespace Go.Proofs.Ytndgaklcnhoddaa
open Go.RowKit Go.Shelf
set_option maxRecDepth 100000 in
set_option maxHeartbeats 4000000 in
theorem circle_any (ks : List Int) (p : Nat) (w : World) (v : TVal ks) (ht : Tab w p ks) :
    Calls Try.prog 75 #[.pointer (some ⟨p, 0, none⟩)] w fun e W => ∃ r row, e = .returned r ∧ Ext w W ∧ IsInts W .i64 r row ∧ BestC ks (nSt ks) row ∧ row.length ≤ nSt ks := by
  have hN := nSt_le v
  have hNe := nSt_eq v
  have n5 := v.n5
  obtain ⟨sb, so, sc, c1, s1, s2, hsS⟩ := ht.st
  obtain ⟨nb, no, nc, c2, n1, n2, hsN⟩ := ht.nx
  have HSN := Lib.hid hsN
  have V := Lib.hid v
  have NE := Lib.hid hNe
  have cb := back_any ks
  obtain ⟨N, hNN⟩ : ∃ N, N = nSt ks := ⟨_, rfl⟩
  rw [← hNN] at HSN NE c1 c2 s1 n1 hN ⊢
  simp only [← hNN] at cb
  have CB := Lib.hid cb
  have HNN := Lib.hid hNN
  have hz := World.block_lt_of_cell? _ _ c1
  simp only at hz
  clear hsS hsN ht v hNe hNN cb
  go_enter Try.func75, Try.ntmps75
  go_wp2_with fail
  go_step3
  go_wp2_with fail
  go_step3
  go_wp2_with fail
  go_loopg [3, 16] N (fun g bv sv W => ∃ (s : Nat) (row : List Int), s + g = N ∧ sv = .int .i64 s ∧ BestC ks s row ∧ row.length ≤ N ∧ IsInts W .i64 bv row ∧ Ext w W)
  case atStart => exact ⟨0, [], by omega, rfl, BestC.zero ks, by simp, IsInts.nil _ _, Below.refl _ _⟩
  case round =>
    obtain ⟨s, row, hs, rfl, hb, hrl, hbi, hE⟩ := hrel
    obtain ⟨X, hX⟩ : ∃ X, X = wr := ⟨_, rfl⟩
    subst hX
    have HB := Lib.hid hb
    have HBI := Lib.hid hbi
    have HE := Lib.hid hE
    have hzr := hE.size
    have c1r := cell_ext hE c1
    obtain ⟨ba, bcap, rfl, hbc, hbm, -⟩ := hbi.spec
    obtain ⟨rn, hrn⟩ : ∃ rn, rn = row.length := ⟨_, rfl⟩
    rw [← hrn] at hbc hrl HBI ⊢
    have HRN := Lib.hid hrn
    clear hb hbi hE hrn
    cases gk with
    | zero =>
      have hsN : ¬ ((s : Int) < (N : Int)) := by omega
      have HS : Hid (s = N) := Lib.hid (by omega)
      go_wp2_with fail
      go_ret
      exact ⟨_, row, rfl, HE.out, HBI.out, by rw [← HS.out]; exact HB.out, by rw [← HRN.out]; exact hrl⟩
    | succ g =>
      have hsN : (s : Int) < (N : Int) := by omega
      have hsn0 : s < N := by omega
      obtain ⟨W1, hmk, hnum, hE1⟩ := make_ints X N (by omega)
      have hzn := hnum.lt
      have HNUM := Lib.hid hnum
      have HE1 := Lib.hid hE1
      have HSG : Hid (s + (g + 1) = N) := Lib.hid hs
      clear hnum hE1 hs
      go_wp2_with fail
      obtain ⟨W3, hW3⟩ : ∃ W3, W1.alloc (.cells #[.int .i64 s] 3) = W3 := ⟨_, rfl⟩
      have hE3 : Ext X W3 := by
        rw [← hW3]
        exact Ext.al HE1.out _
      have hnum3 : NumB W3 X.heap.size N (fun j => (fun _ : Int => (0 : Int)) (j : Int)) := by
        rw [← hW3]
        exact HNUM.out.of_heap (Below.heap_alloc _ _ _ hzn)
      have hq3 : Que W3 (X.heap.size + 1) (.slice (some ⟨W1.heap.size, 0, none⟩) 1 1) [(s : Int)] := by
        refine ⟨W1.heap.size, 0, 1, #[.int .i64 s], rfl, by simp, by omega, by omega, ?_, .inr ⟨rfl, fun j hj => ?_⟩⟩
        · rw [← hW3]
          exact World.alloc_heap_new W1 (.cells #[.int .i64 s] 3)
        · have : j = 0 := by simpa using hj
          subst this; rfl
      have hc3 : CircI ks s [] [(s : Int)] [] (fun _ => 0) (fun _ => 0) := CircI.start (by omega) (by have := NE.out; omega)
      rw [hW3]
      have HE3 := Lib.hid hE3
      have HNUM3 := Lib.hid hnum3
      have HQ3 := Lib.hid hq3
      have HC3 := Lib.hid hc3
      clear hW3 hE3 hnum3 hq3 hc3 HNUM hmk
      go_loopg [3, 6] (N + 1) (fun g2 bv wv W => ∃ (o q : List Int) (bf : Int → Int) (d : Int → Nat), o.length + g2 = N + 1 ∧ bv = .slice ba rn bcap ∧ CircI ks s o q [] bf d ∧ Que W (X.heap.size + 1) wv q ∧ NumB W X.heap.size N (fun j => bf (j : Int)) ∧ Ext X W)
      case atStart => exact ⟨[], _, _, _, by simp, rfl, HC3.out, HQ3.out, HNUM3.out, HE3.out⟩
      case round =>
        obtain ⟨o, q, bf, d, hg2, rfl, hci, hq, hnum, hEX⟩ := hrel
        have HEX := Lib.hid hEX
        have HNUMr := Lib.hid hnum
        have HG2 := Lib.hid hg2
        have hzx := hEX.size
        clear HE3 HNUM3 HQ3 HC3
        rcases q with _ | ⟨i, q⟩
        · obtain ⟨qg, qo, qc, qcur, rfl, _, _, _, _, _⟩ := hq
          have HCI := Lib.hid hci
          clear hci hEX hnum hg2
          go_wp2_with fail
          go_roundg g
          case rel => exact ⟨s + 1, row, by have := HSG.out; omega, by go_num, HB.out.none HCI.out.none, by rw [← HRN.out]; exact hrl, HBI.out.ext HEX.out, HE.out.trans' HEX.out⟩
          case measure => omega
        · have hib := hci.bd i (by simp)
          have hlen0 := hci.len V.out
          obtain ⟨ii, rfl⟩ : ∃ ii : Nat, i = (ii : Int) := ⟨i.toNat, by omega⟩
          obtain ⟨gq, off, cap, rfl, hq1, hq2, hqc, hqn⟩ := hq.spec
          have hzg := World.block_lt_of_cell? _ _ hqc
          simp only at hzg
          have hiN : ii < N := by have := NE.out; omega
          have hii : (ii : Int) < (N : Int) := by omega
          have c2' := cell_ext (HE.out.trans' hEX) c2
          have HCI := Lib.hid hci
          have HQN := Lib.hid hqn
          obtain ⟨n, hn⟩ : ∃ n, n = q.length := ⟨_, rfl⟩
          rw [← hn] at hq1 HQN ⊢
          have hqli : ((n + 1 : Nat) : Int) > 0 := by omega
          have HLEN0 : Hid (o.length + 1 ≤ N) := Lib.hid (by have := HNN.out; simp at hlen0; omega)
          clear hn hci hEX hnum hg2 hqn hq hlen0
          by_cases hc1 : cap = 1
          · subst hc1
            clear hq1
            have hqt : Que wr (X.heap.size + 1) (.slice (some ⟨gq, off, none⟩) n 0) q := HQN.out _ (.inr ⟨by omega, rfl⟩)
            have HQT := Lib.hid hqt
            obtain ⟨ea, ec, hce, hle⟩ := HSN.out ii hiN
            have hlb := fun x hx => nxN_bd V.out (i := (ii : Int)) (x := x) hx
            have hl5 := nxN_len (ks := ks) (ii : Int)
            obtain ⟨l, hl⟩ : ∃ l, l = nxN ks (ii : Int) := ⟨_, rfl⟩
            rw [← hl] at hce hle hlb hl5
            have hEw : Ext w wr := HE.out.trans' HEX.out
            have e5 := cell_ext hEw hce
            have HL := Lib.hid hl
            have HLB := Lib.hid hlb
            have HLE := Lib.hid hle
            have HEW := Lib.hid hEw
            clear hqt hce hle hlb hl hEw
            have hgm : ∃ gm, gk = gm + 1 := ⟨gk - 1, by have := HG2.out; have := HLEN0.out; omega⟩
            obtain ⟨gm, rfl⟩ := hgm
            have hii5 : (ii : Int) < 1000 := by omega
            go_wp2_with fail
            go_loopg [3, 6, 43] l.length (fun g3 bv wv jv W => ∃ (k : Nat) (q' : List Int) (bf' : Int → Int) (d' : Int → Nat), k + g3 = l.length ∧ bv = .slice ba rn bcap ∧ jv = .int .i64 k ∧ CircI ks s o ((ii : Int) :: q') (l.take k) bf' d' ∧ Que W (X.heap.size + 1) wv q' ∧ NumB W X.heap.size N (fun j => bf' (j : Int)) ∧ Ext X W)
            case atStart => exact ⟨0, q, bf, d, by omega, rfl, rfl, HCI.out, HQT.out, HNUMr.out, HEX.out⟩
            case round =>
              obtain ⟨k, q', bf', d', hk, rfl, rfl, hci', hq', hnum', hE'⟩ := hrel
              obtain ⟨ua, un, uc, rfl⟩ := hq'.form
              have HCI' := Lib.hid hci'
              have HQ' := Lib.hid hq'
              have HNUM' := Lib.hid hnum'
              have HE' := Lib.hid hE'
              have hzx' := hE'.size
              cases gk with
              | zero =>
                have hkl : ¬ ((k : Int) < (l.length : Int)) := by omega
                have HKL : Hid (k = l.length) := Lib.hid (by omega)
                clear hci' hq' hnum' hE' hk
                go_wp2_with fail
                go_roundg gm
                case rel =>
                  refine ⟨o ++ [(ii : Int)], q', bf', d', ?_, rfl, HCI'.out.next fun y hy => ?_, HQ'.out, HNUM'.out, HE'.out⟩
                  · have := HG2.out; simp; omega
                  · rw [HKL.out, List.take_length, HL.out]; exact hy
                case measure => omega
              | succ g3 =>
                have hlt : k < l.length := by omega
                rcases (HLE.out.ext (HE.out.trans' hE')).spec with ⟨ea', ec', e, -, -, hcc⟩
                cases e
                rcases hcc with hcc | ⟨eb, eo, rfl, hcc⟩
                · rw [hcc] at hlt; simp at hlt
                have d0 := hcc k hlt
                have hkl : l[k]? = some l[k] := List.getElem?_eq_getElem hlt
                have hyb := HLB.out l[k] (List.getElem_mem hlt)
                have htk1 : l.take (k + 1) = l.take k ++ [l[k]] := List.take_succ_eq_append_getElem hlt
                obtain ⟨Y, hY⟩ : ∃ Y : Nat, l[k] = (Y : Int) := ⟨l[k].toNat, by omega⟩
                rw [hY] at d0 hyb htk1 hkl
                rw [HL.out] at hkl
                have hYN : Y < N := by have := NE.out; omega
                have hYi : (Y : Int) < (N : Int) := by omega
                have hki : (k : Int) < (l.length : Int) := by omega
                have hk5 : (k : Int) < 5 := by omega
                have g0 : wr.cell? ⟨X.heap.size, Y, none⟩ = some (.int .i64 (bf' (Y : Int))) := hnum'.cell Y hYN
                have gf := hnum'.free Y
                have hzn' := hnum'.lt
                have hzd := World.block_lt_of_cell? _ _ d0
                simp only at hzd
                have hnn := hci'.nonneg (by omega) (Y : Int)
                have hlen' := hci'.len V.out
                have HMEM := Lib.hid hkl
                have HTK1 := Lib.hid htk1
                have HLEN' : Hid (q'.length + 1 ≤ 1000000) := Lib.hid (by have := HNN.out; simp at hlen'; omega)
                obtain ⟨z, hz0⟩ : ∃ z, z = bf' (Y : Int) := ⟨_, rfl⟩
                rw [← hz0] at g0 hnn
                have HZ := Lib.hid hz0
                have HKG := Lib.hid hk
                clear hci' hq' hnum' hE' hcc hY hyb hkl htk1 hlen' hz0 hk
                by_cases hzp : 0 < z
                · have hzp2 : z > 0 := hzp
                  clear hnn gf hzn'
                  go_wp2_with fail
                  go_roundg g3
                  case rel => exact ⟨k + 1, q', bf', d', by have := HKG.out; omega, rfl, by go_num, by rw [HTK1.out]; exact HCI'.out.skip (by rw [← HZ.out]; omega), HQ'.out, HNUM'.out, HE'.out⟩
                  case measure => omega
                · have hz1 : z = 0 := by omega
                  subst hz1
                  have hq2' : Que (wr.setCell ⟨X.heap.size, Y, none⟩ (.int .i64 (1 + (ii : Int) * 5 + k))) (X.heap.size + 1) (.slice (some ua) un uc) q' := HQ'.out.kept (S := fun k => k ≠ X.heap.size) ((Kept.refl _ wr).setCell (fun _ h => h rfl) _) (fun g cur hg _ _ => by omega)
                  have HQ2' := Lib.hid hq2'
                  have hE2' : Ext X (wr.setCell ⟨X.heap.size, Y, none⟩ (.int .i64 (1 + (ii : Int) * 5 + k))) := HE'.out.setCell (by simp only; omega) _
                  have HE2' := Lib.hid hE2'
                  have hnum2 : NumB (wr.setCell ⟨X.heap.size, Y, none⟩ (.int .i64 (1 + (ii : Int) * 5 + k))) X.heap.size N (fun j => setB bf' Y (1 + (ii : Int) * 5 + k) (j : Int)) := (HNUM'.out.set Y _).congr fun j _ => by
                    unfold setB
                    by_cases e : j = Y
                    · rw [if_pos e, if_pos (by omega)]
                    · rw [if_neg e, if_neg (by omega)]
                  have HNUM2 := Lib.hid hnum2
                  clear hq2' hE2' hnum2 hnn
                  by_cases hys : s = Y
                  · subst hys
                    obtain ⟨r2, kk, hch, hr2, hwl, hmin, hkk⟩ := HCI'.out.found V.out (by omega) HMEM.out
                    rw [← HNN.out] at hkk
                    have cb := CB.out (setB bf' s (1 + (ii : Int) * 5 + k)) s kk r2 (.pointer (some ⟨p, 0, none⟩)) X.heap.size 0 N _ V.out hsn0 hch (by omega) (fun i hi => by rw [Nat.zero_add]; exact HNUM2.out.cell i hi)
                    have HCB := Lib.hid cb
                    have HMIN := Lib.hid hmin
                    have HWL := Lib.hid hwl
                    have HCH := Lib.hid hch
                    have HR2 := Lib.hid hr2
                    clear cb hmin hwl hch hr2
                    go_wp2_with fail
                    refine HCB.out.mono ?_
                    rintro e5 W5 ⟨r5, rfl, hE5, hI5⟩
                    obtain ⟨pa, pcap, rfl, hpc, hpm, -⟩ := hI5.spec
                    have HE5 := Lib.hid (HE2'.out.trans' hE5)
                    rw [HR2.out] at hpc hI5 ⊢
                    have HI5 := Lib.hid hI5
                    have hk100 : kk ≤ 1001 := by omega
                    have hBE : Hid (kk < rn ∨ rn = 0 → BestC ks (s + 1) r2) := Lib.hid fun h => HB.out.better V.out (by have := NE.out; omega) HCH.out HWL.out HMIN.out (by
                      rcases h with h | h
                      · exact .inr (by rw [HR2.out, ← HRN.out]; exact h)
                      · exact .inl (List.eq_nil_of_length_eq_zero (by rw [← HRN.out]; exact h)))
                    have hKE : Hid (¬ (kk < rn ∨ rn = 0) → BestC ks (s + 1) row) := Lib.hid fun h => HB.out.keep HMIN.out (fun e => by have := HRN.out; rw [e] at this; exact h (.inr (by simpa using this))) (by rw [← HRN.out]; omega)
                    clear hE5 hI5 HCB
                    by_cases hr0 : rn = 0
                    · subst hr0
                      go_wp2_with fail
                      go_roundg g
                      case rel => exact ⟨s + 1, r2, by have := HSG.out; omega, by go_num, hBE.out (.inr (by simp)), by rw [HR2.out]; exact hkk, HI5.out, HE.out.trans' HE5.out⟩
                      case measure => omega
                    · have hr1 : ((rn : Int) == 0) = false := by simp; omega
                      have hr2 : ¬ ((rn : Int) = 0) := by omega
                      by_cases hlt2 : kk < rn
                      · have hlt3 : (kk : Int) < (rn : Int) := by omega
                        go_wp2_with fail
                        go_roundg g
                        case rel => exact ⟨s + 1, r2, by have := HSG.out; omega, by go_num, hBE.out (.inl hlt2), by rw [HR2.out]; exact hkk, HI5.out, HE.out.trans' HE5.out⟩
                        case measure => omega
                      · have hlt3 : ¬ (kk : Int) < (rn : Int) := by omega
                        go_wp2_with fail
                        go_roundg g
                        case rel => exact ⟨s + 1, row, by have := HSG.out; omega, by go_num, hKE.out (by omega), by rw [← HRN.out]; exact hrl, HBI.out.ext HE5.out, HE.out.trans' HE5.out⟩
                        case measure => omega
                  · have hys1 : ((Y : Int) != (s : Int)) = true := by simp; omega
                    have hys2 : ((Y : Int) == (s : Int)) = false := by simp; omega
                    have hys3 : ¬ ((Y : Int) = (s : Int)) := by omega
                    have hys4 : ¬ (Y = s) := by omega
                    have HYS := Lib.hid hys3
                    go_wp2_with (at_builtin; refine wpQue rfl (.tmp 64) (.tmp 66) rfl (X.heap.size + 1) rfl (HQ2'.out.ext (by exact (by repeat (first | exact Below.refl _ _ | refine Ext.al ?_ _ | refine Ext.dr ?_ | refine Ext.drN ?_ _ | refine Ext.gr ?_ _ | refine Ext.set ?_ (by simp) _ | (refine Ext.trans' ?_ (by assumption)))))) (Y : Int) wr.heap.size 1 rfl (by simp [go_sem]) HLEN'.out (by simp [World.setCell]; omega) ?_)
                    intro v6 W6 hq6 hk6
                    obtain ⟨qa, qn, qc, rfl⟩ := hq6.form
                    have hk7 : Kept (fun k => some k ≠ (Value.slice (some ua) un uc).ownBlock) (wr.setCell ⟨X.heap.size, Y, none⟩ (.int .i64 (1 + (ii : Int) * 5 + k))) W6 := ((Kept.refl _ _).alloc _).trans hk6
                    have hnum6 := HNUM2.out.of_heap (hk7.same _ (by simpa [World.setCell] using hzn') fun e => by have := (HQ2'.out.own _ e.symm).1; omega)
                    have hE6 : Ext X W6 := HE2'.out.trans (Kept.below (hk7.mono fun j _ hj e => by have := (HQ2'.out.own j e.symm).1; omega) (by have := HE2'.out.size; exact this))
                    obtain ⟨d6, hadd⟩ := HCI'.out.add V.out (by omega) HMEM.out HZ.out.symm HYS.out
                    have HADD := Lib.hid hadd
                    have HQ6 := Lib.hid hq6
                    have HNUM6 := Lib.hid hnum6
                    have HE6 := Lib.hid hE6
                    clear hq6 hk6 hk7 hnum6 hE6 hadd
                    go_wp2_with fail
                    go_roundg g3
                    case rel => exact ⟨k + 1, q' ++ [(Y : Int)], _, _, by have := HKG.out; omega, rfl, by go_num, by rw [HTK1.out]; exact HADD.out, HQ6.out, HNUM6.out, HE6.out⟩
                    case measure => omega
          · skip
            have hqt : Que wr (X.heap.size + 1) (.slice (some ⟨gq, off + 1, none⟩) n (cap - 1)) q := HQN.out _ (.inl rfl)
            have HQT := Lib.hid hqt
            obtain ⟨ea, ec, hce, hle⟩ := HSN.out ii hiN
            have hlb := fun x hx => nxN_bd V.out (i := (ii : Int)) (x := x) hx
            have hl5 := nxN_len (ks := ks) (ii : Int)
            obtain ⟨l, hl⟩ : ∃ l, l = nxN ks (ii : Int) := ⟨_, rfl⟩
            rw [← hl] at hce hle hlb hl5
            have hEw : Ext w wr := HE.out.trans' HEX.out
            have e5 := cell_ext hEw hce
            have HL := Lib.hid hl
            have HLB := Lib.hid hlb
            have HLE := Lib.hid hle
            have HEW := Lib.hid hEw
            clear hqt hce hle hlb hl hEw
            have hgm : ∃ gm, gk = gm + 1 := ⟨gk - 1, by have := HG2.out; have := HLEN0.out; omega⟩
            obtain ⟨gm, rfl⟩ := hgm
            have hii5 : (ii : Int) < 1000 := by omega
            go_wp2_with fail
            go_loopg [3, 6, 43] l.length (fun g3 bv wv jv W => ∃ (k : Nat) (q' : List Int) (bf' : Int → Int) (d' : Int → Nat), k + g3 = l.length ∧ bv = .slice ba rn bcap ∧ jv = .int .i64 k ∧ CircI ks s o ((ii : Int) :: q') (l.take k) bf' d' ∧ Que W (X.heap.size + 1) wv q' ∧ NumB W X.heap.size N (fun j => bf' (j : Int)) ∧ Ext X W)
            case atStart => exact ⟨0, q, bf, d, by omega, rfl, rfl, HCI.out, HQT.out, HNUMr.out, HEX.out⟩
            case round =>
              obtain ⟨k, q', bf', d', hk, rfl, rfl, hci', hq', hnum', hE'⟩ := hrel
              obtain ⟨ua, un, uc, rfl⟩ := hq'.form
              have HCI' := Lib.hid hci'
              have HQ' := Lib.hid hq'
              have HNUM' := Lib.hid hnum'
              have HE' := Lib.hid hE'
              have hzx' := hE'.size
              cases gk with
              | zero =>
                have hkl : ¬ ((k : Int) < (l.length : Int)) := by omega
                have HKL : Hid (k = l.length) := Lib.hid (by omega)
                clear hci' hq' hnum' hE' hk
                go_wp2_with fail
                go_roundg gm
                case rel =>
                  refine ⟨o ++ [(ii : Int)], q', bf', d', ?_, rfl, HCI'.out.next fun y hy => ?_, HQ'.out, HNUM'.out, HE'.out⟩
                  · have := HG2.out; simp; omega
                  · rw [HKL.out, List.take_length, HL.out]; exact hy
                case measure => omega
              | succ g3 =>
                have hlt : k < l.length := by omega
                rcases (HLE.out.ext (HE.out.trans' hE')).spec with ⟨ea', ec', e, -, -, hcc⟩
                cases e
                rcases hcc with hcc | ⟨eb, eo, rfl, hcc⟩
                · rw [hcc] at hlt; simp at hlt
                have d0 := hcc k hlt
                have hkl : l[k]? = some l[k] := List.getElem?_eq_getElem hlt
                have hyb := HLB.out l[k] (List.getElem_mem hlt)
                have htk1 : l.take (k + 1) = l.take k ++ [l[k]] := List.take_succ_eq_append_getElem hlt
                obtain ⟨Y, hY⟩ : ∃ Y : Nat, l[k] = (Y : Int) := ⟨l[k].toNat, by omega⟩
                rw [hY] at d0 hyb htk1 hkl
                rw [HL.out] at hkl
                have hYN : Y < N := by have := NE.out; omega
                have hYi : (Y : Int) < (N : Int) := by omega
                have hki : (k : Int) < (l.length : Int) := by omega
                have hk5 : (k : Int) < 5 := by omega
                have g0 : wr.cell? ⟨X.heap.size, Y, none⟩ = some (.int .i64 (bf' (Y : Int))) := hnum'.cell Y hYN
                have gf := hnum'.free Y
                have hzn' := hnum'.lt
                have hzd := World.block_lt_of_cell? _ _ d0
                simp only at hzd
                have hnn := hci'.nonneg (by omega) (Y : Int)
                have hlen' := hci'.len V.out
                have HMEM := Lib.hid hkl
                have HTK1 := Lib.hid htk1
                have HLEN' : Hid (q'.length + 1 ≤ 1000000) := Lib.hid (by have := HNN.out; simp at hlen'; omega)
                obtain ⟨z, hz0⟩ : ∃ z, z = bf' (Y : Int) := ⟨_, rfl⟩
                rw [← hz0] at g0 hnn
                have HZ := Lib.hid hz0
                have HKG := Lib.hid hk
                clear hci' hq' hnum' hE' hcc hY hyb hkl htk1 hlen' hz0 hk
                by_cases hzp : 0 < z
                · have hzp2 : z > 0 := hzp
                  clear hnn gf hzn'
                  go_wp2_with fail
                  go_roundg g3
                  case rel => exact ⟨k + 1, q', bf', d', by have := HKG.out; omega, rfl, by go_num, by rw [HTK1.out]; exact HCI'.out.skip (by rw [← HZ.out]; omega), HQ'.out, HNUM'.out, HE'.out⟩
                  case measure => omega
                · have hz1 : z = 0 := by omega
                  subst hz1
                  have hq2' : Que (wr.setCell ⟨X.heap.size, Y, none⟩ (.int .i64 (1 + (ii : Int) * 5 + k))) (X.heap.size + 1) (.slice (some ua) un uc) q' := HQ'.out.kept (S := fun k => k ≠ X.heap.size) ((Kept.refl _ wr).setCell (fun _ h => h rfl) _) (fun g cur hg _ _ => by omega)
                  have HQ2' := Lib.hid hq2'
                  have hE2' : Ext X (wr.setCell ⟨X.heap.size, Y, none⟩ (.int .i64 (1 + (ii : Int) * 5 + k))) := HE'.out.setCell (by simp only; omega) _
                  have HE2' := Lib.hid hE2'
                  have hnum2 : NumB (wr.setCell ⟨X.heap.size, Y, none⟩ (.int .i64 (1 + (ii : Int) * 5 + k))) X.heap.size N (fun j => setB bf' Y (1 + (ii : Int) * 5 + k) (j : Int)) := (HNUM'.out.set Y _).congr fun j _ => by
                    unfold setB
                    by_cases e : j = Y
                    · rw [if_pos e, if_pos (by omega)]
                    · rw [if_neg e, if_neg (by omega)]
                  have HNUM2 := Lib.hid hnum2
                  clear hq2' hE2' hnum2 hnn
                  by_cases hys : s = Y
                  · subst hys
                    obtain ⟨r2, kk, hch, hr2, hwl, hmin, hkk⟩ := HCI'.out.found V.out (by omega) HMEM.out
                    rw [← HNN.out] at hkk
                    have cb := CB.out (setB bf' s (1 + (ii : Int) * 5 + k)) s kk r2 (.pointer (some ⟨p, 0, none⟩)) X.heap.size 0 N _ V.out hsn0 hch (by omega) (fun i hi => by rw [Nat.zero_add]; exact HNUM2.out.cell i hi)
                    have HCB := Lib.hid cb
                    have HMIN := Lib.hid hmin
                    have HWL := Lib.hid hwl
                    have HCH := Lib.hid hch
                    have HR2 := Lib.hid hr2
                    clear cb hmin hwl hch hr2
                    go_wp2_with fail
                    refine HCB.out.mono ?_
                    rintro e5 W5 ⟨r5, rfl, hE5, hI5⟩
                    obtain ⟨pa, pcap, rfl, hpc, hpm, -⟩ := hI5.spec
                    have HE5 := Lib.hid (HE2'.out.trans' hE5)
                    rw [HR2.out] at hpc hI5 ⊢
                    have HI5 := Lib.hid hI5
                    have hk100 : kk ≤ 1001 := by omega
                    have hBE : Hid (kk < rn ∨ rn = 0 → BestC ks (s + 1) r2) := Lib.hid fun h => HB.out.better V.out (by have := NE.out; omega) HCH.out HWL.out HMIN.out (by
                      rcases h with h | h
                      · exact .inr (by rw [HR2.out, ← HRN.out]; exact h)
                      · exact .inl (List.eq_nil_of_length_eq_zero (by rw [← HRN.out]; exact h)))
                    have hKE : Hid (¬ (kk < rn ∨ rn = 0) → BestC ks (s + 1) row) := Lib.hid fun h => HB.out.keep HMIN.out (fun e => by have := HRN.out; rw [e] at this; exact h (.inr (by simpa using this))) (by rw [← HRN.out]; omega)
                    clear hE5 hI5 HCB
                    by_cases hr0 : rn = 0
                    · subst hr0
                      go_wp2_with fail
                      go_roundg g
                      case rel => exact ⟨s + 1, r2, by have := HSG.out; omega, by go_num, hBE.out (.inr (by simp)), by rw [HR2.out]; exact hkk, HI5.out, HE.out.trans' HE5.out⟩
                      case measure => omega
                    · have hr1 : ((rn : Int) == 0) = false := by simp; omega
                      have hr2 : ¬ ((rn : Int) = 0) := by omega
                      by_cases hlt2 : kk < rn
                      · have hlt3 : (kk : Int) < (rn : Int) := by omega
                        go_wp2_with fail
                        go_roundg g
                        case rel => exact ⟨s + 1, r2, by have := HSG.out; omega, by go_num, hBE.out (.inl hlt2), by rw [HR2.out]; exact hkk, HI5.out, HE.out.trans' HE5.out⟩
                        case measure => omega
                      · have hlt3 : ¬ (kk : Int) < (rn : Int) := by omega
                        go_wp2_with fail
                        go_roundg g
                        case rel => exact ⟨s + 1, row, by have := HSG.out; omega, by go_num, hKE.out (by omega), by rw [← HRN.out]; exact hrl, HBI.out.ext HE5.out, HE.out.trans' HE5.out⟩
                        case measure => omega
                  · have hys1 : ((Y : Int) != (s : Int)) = true := by simp; omega
                    have hys2 : ((Y : Int) == (s : Int)) = false := by simp; omega
                    have hys3 : ¬ ((Y : Int) = (s : Int)) := by omega
                    have hys4 : ¬ (Y = s) := by omega
                    have HYS := Lib.hid hys3
                    go_wp2_with (at_builtin; refine wpQue rfl (.tmp 64) (.tmp 66) rfl (X.heap.size + 1) rfl (HQ2'.out.ext (by exact (by repeat (first | exact Below.refl _ _ | refine Ext.al ?_ _ | refine Ext.dr ?_ | refine Ext.drN ?_ _ | refine Ext.gr ?_ _ | refine Ext.set ?_ (by simp) _ | (refine Ext.trans' ?_ (by assumption)))))) (Y : Int) wr.heap.size 1 rfl (by simp [go_sem]) HLEN'.out (by simp [World.setCell]; omega) ?_)
                    intro v6 W6 hq6 hk6
                    obtain ⟨qa, qn, qc, rfl⟩ := hq6.form
                    have hk7 : Kept (fun k => some k ≠ (Value.slice (some ua) un uc).ownBlock) (wr.setCell ⟨X.heap.size, Y, none⟩ (.int .i64 (1 + (ii : Int) * 5 + k))) W6 := ((Kept.refl _ _).alloc _).trans hk6
                    have hnum6 := HNUM2.out.of_heap (hk7.same _ (by simpa [World.setCell] using hzn') fun e => by have := (HQ2'.out.own _ e.symm).1; omega)
                    have hE6 : Ext X W6 := HE2'.out.trans (Kept.below (hk7.mono fun j _ hj e => by have := (HQ2'.out.own j e.symm).1; omega) (by have := HE2'.out.size; exact this))
                    obtain ⟨d6, hadd⟩ := HCI'.out.add V.out (by omega) HMEM.out HZ.out.symm HYS.out
                    have HADD := Lib.hid hadd
                    have HQ6 := Lib.hid hq6
                    have HNUM6 := Lib.hid hnum6
                    have HE6 := Lib.hid hE6
                    clear hq6 hk6 hk7 hnum6 hE6 hadd
                    go_wp2_with fail
                    go_roundg g3
                    case rel => exact ⟨k + 1, q' ++ [(Y : Int)], _, _, by have := HKG.out; omega, rfl, by go_num, by rw [HTK1.out]; exact HADD.out, HQ6.out, HNUM6.out, HE6.out⟩
                    case measure => omega
end Go.Proofs.Ytndgaklcnhoddaa
namespace Go.Proofs.Ytndgaklcnhoddaa
open Go.RowKit Go.Shelf
noncomputable def circleErr (ks : List Int) : Int := if tchk ks ≠ 0 then tchk ks else if rowOf (nxS ks) (zeroS ks) < 0 then 0 else 17
theorem stV_zero (ks : List Int) : stV (zeroS ks) = stV [] := by
  have h : ∀ i, gt (zeroS ks) i = 0 := fun i => zeroS_at ks i
  rw [stV_eq, stV_eq, h, h, h, h, h]
  rfl
theorem infI : ∃ i, Try.prog.info? 3 = some i ∧ i.zero = some (.int .i64 0) ∧ i.size = 1 ∧ i.bytes = 8 := info_parts (by kernel_rfl)
/-- what Circle returns -/
structure CircR (ks row : List Int) : Prop where
  bad : circleErr ks ≠ 0 → row = []
  ne : circleErr ks = 0 → row ≠ []
  short : circleErr ks = 0 → IsShort ks row.length
  win : circleErr ks = 0 → WinL ks row
  circ : circleErr ks = 0 → circP ks row = true
  le : row.length ≤ 1000
set_option maxRecDepth 100000 in
set_option maxHeartbeats 1000000 in
theorem circleT_any (ks : List Int) (kv : Value) (w : World) (hv : IsInts w .i64 kv ks) :
    Calls Try.prog 31 #[.agg #[kv]] w fun e W => ∃ r row, e = .returned (.tuple #[r, .int .i64 (circleErr ks)]) ∧ Ext w W ∧ IsInts W .i64 r row ∧ CircR ks row := by
  obtain ⟨sa, cap, rfl, h1, h2, -⟩ := hv.spec
  have HV := Lib.hid hv
  clear hv
  obtain ⟨t, ht⟩ : ∃ t, t = tchk ks := ⟨_, rfl⟩
  have HT := Lib.hid ht
  go_enter Try.func31, Try.ntmps31
  go_upto_region 1 with (fail)
  obtain ⟨W0, hW0⟩ : ∃ W0, W0 = w.alloc (.cells #[.slice sa ks.length cap] 24) := ⟨_, rfl⟩
  have hE : Ext w W0 := by rw [hW0]; exact (by repeat (first | exact Below.refl _ _ | refine Ext.al ?_ _ | refine Ext.dr ?_ | refine Ext.drN ?_ _ | refine Ext.gr ?_ _ | refine Ext.set ?_ (by simp) _ | (refine Ext.trans' ?_ (by assumption))))
  have k0 : W0.cell? ⟨w.heap.size, 0, none⟩ = some (.slice sa ks.length cap) := by rw [hW0]; simp [go_sem]
  have hz : w.heap.size < W0.heap.size := World.block_lt_of_cell? _ _ k0
  have HS := Lib.hid (HV.out.ext hE)
  have HW := Lib.hid hE
  rw [← hW0]
  clear hW0 HV
  clear hE
  go_wp2_with fail
  refine (checkHall_any ks _ W0 HS.out).mono ?_
  rintro e W1 ⟨rfl, hE1⟩
  rw [← ht]
  clear ht
  have k1 := cell_ext hE1 k0
  have HE1 := Lib.hid hE1
  have HS1 := Lib.hid (HS.out.ext hE1)
  clear hE1
  by_cases hc : t = 0
  · have e1 : (t == 0) = true := by simpa using hc
    have e2 : (t != 0) = false := by simpa using hc
    have V := Lib.hid (tval_of (HT.out.symm.trans hc))
    have HC := Lib.hid hc
    clear hc
    go_wp2_with fail
    refine (newTable_any ks _ W1 V.out HS1.out).mono ?_
    rintro e W2 ⟨p, rfl, hE2, hT2⟩
    have HE2 := Lib.hid hE2
    have HT2 := Lib.hid hT2
    have hsf := isSafe_any ks (zeroS ks) p _ W2 V.out (zeroS_st V.out) HT2.out.hd HT2.out.mp
    rw [safe_F V.out (zeroS_st V.out), stV_zero, stV_eq] at hsf
    have hce : circleErr ks = if rowOf (nxS ks) (zeroS ks) < 0 then 0 else 17 := by unfold circleErr; rw [if_neg (by rw [← HT.out]; exact fun h => h HC.out)]
    have HSF := Lib.hid hsf
    have HCE := Lib.hid hce
    clear hE2 hT2 hsf hce
    go_wp2_with fail
    refine HSF.out.mono ?_
    rintro e W3 ⟨rfl, hE3⟩
    have HE3 := Lib.hid hE3
    clear hE3 HSF
    by_cases hr : rowOf (nxS ks) (zeroS ks) < 0
    · have hd : decide (rowOf (nxS ks) (zeroS ks) < 0) = true := decide_eq_true hr
      have HR := Lib.hid hr
      rw [hd]
      clear hr hd
      go_wp2_with fail
      refine (circle_any ks p W3 V.out (HT2.out.ext HE3.out)).mono ?_
      rintro e W4 ⟨r, row, rfl, hE4, hI4, hB4, hl4⟩
      have hsp : SafeP (nxS ks) (zeroS ks) := rowOf_neg.1 HR.out
      have hsh := hB4.short V.out hsp
      have hN := nSt_le V.out
      obtain ⟨ra, rc, rfl, hr1, hr2, hr3⟩ := hI4.spec
      rcases hr3 with hr3 | ⟨rb, ro, rfl, hr3⟩
      · exact absurd hr3 hsh.1
      have HSH := Lib.hid hsh
      have HI4 := Lib.hid hI4
      have HE4 := Lib.hid hE4
      have hl1 : row.length ≤ 1000 := by omega
      obtain ⟨n, hn⟩ : ∃ n, n = row.length := ⟨_, rfl⟩
      have HR3 := Lib.hid hr3
      rw [← hn] at hr1 hl1 ⊢
      have HNN := Lib.hid hn
      have hcr : CircR ks row := by
        have h0 : circleErr ks = 0 := by rw [HCE.out, if_pos HR.out]
        exact ⟨fun h => absurd h0 h, fun _ => hsh.1, fun _ => hsh.2.1, fun _ => hsh.2.2.1, fun _ => hsh.2.2.2, by rw [← hn]; exact hl1⟩
      have HCR := Lib.hid hcr
      have h00 : Hid (circleErr ks = 0) := Lib.hid (by rw [HCE.out, if_pos HR.out])
      clear hsh hI4 hE4 hn hr3 hB4 hsp hl4 hN hcr
      obtain ⟨iI, hiI, hzI, hsI, hbI⟩ := infI
      have hbk : iI.bytes * n ≤ 281474976710656 := by rw [hbI]; omega
      go_wp2_with (first | (at_make; refine wpList_make_full _ rfl _ _ 22 rfl W4.heap.size 3 iI (.int .i64 0) 1 elInt.und hiI hzI hsI .i64 .i64 _ _ n rfl rfl rfl rfl hbk (by simp [maxLen]; omega) (by omega) ?_))
      intro w5 hown5 hg5'
      have hE5 : Ext W4 w5 := (Below.refl _ W4).grown hg5' (Nat.le_refl _) fun k hk => by cases hk
      have hcur : ∃ cur : Array Value, w5.heap[W4.heap.size]? = some (.cells cur 3 (0, 0)) ∧ cur.size = n := by
        rcases hown5.2 with ⟨e, _⟩ | ⟨g', cap', cur, e, _, hg', _, _, hcs, _⟩
        · cases e
        · cases e; exact ⟨cur, hg', by omega⟩
      obtain ⟨cur, hcur, hcs⟩ := hcur
      have HCUR := Lib.hid hcur
      have HCS := Lib.hid hcs
      have HE5 := Lib.hid hE5
      have hsrc : ∀ j v, (row.map (Value.int .i64))[j]? = some v → w5.cell? ((⟨rb, ro, none⟩ : Addr).add j) = some v := fun j v hj => by
        rw [addr_add]
        obtain ⟨x, hx, rfl⟩ := (by simpa using hj : ∃ x, row[j]? = some x ∧ Value.int .i64 x = v)
        obtain ⟨hjl, rfl⟩ := List.getElem?_eq_some_iff.1 hx
        exact cell_ext HE5.out (HR3.out j hjl)
      have HSRC := Lib.hid hsrc
      have hlen : (row.map (Value.int .i64)).length = Nat.min n n := by have := HNN.out; simp; omega
      have HLEN := Lib.hid hlen
      have HFIT : Hid (0 + (row.map (Value.int .i64)).length ≤ cur.size) := Lib.hid (by rw [hlen, hcs]; show 0 + min n n ≤ n; omega)
      have HONE : Hid (∀ u ∈ row.map (Value.int .i64), u.oneCell' = true) := Lib.hid (by intro u hu; obtain ⟨y, _, rfl⟩ := List.mem_map.1 hu; rfl)
      have hsz1 : (Try.prog.info? 3).map (·.size) = some 1 := by rw [hiI]; simp [hsI]
      have HSZ := Lib.hid hsz1
      clear hown5 hg5' hE5 hcur hcs hsrc hlen hsz1 hiI hzI hsI hbI hbk
      go_wp2_with (with_reducible refine wpList_copy_own rfl (.tmp 24) (.tmp 25) 22 22 rfl 3 elInt.und HSZ.out W4.heap.size 0 n n ⟨rb, ro, none⟩ n rc rfl rfl cur 3 HCUR.out (row.map (Value.int .i64)) HLEN.out HSRC.out HFIT.out HONE.out ?_)
      refine bodyPost_ret (v := .tuple #[.slice (some ⟨W4.heap.size, 0, none⟩) n n, .int .i64 0]) (by simp [results, Try.results31, go_sem]) rfl ?_
      refine ⟨.slice (some ⟨W4.heap.size, 0, none⟩) n n, row, by rw [h00.out], (HW.out.trans' (HE1.out.trans' (HE2.out.trans' (HE3.out.trans' HE4.out)))).trans' (HE5.out.mono (Nat.le_refl _) |>.trans (by exact below_setRow (Below.refl _ _) (Nat.le_refl _) _)), ?_, HCR.out⟩
      have := IsInts.mk (w := w5.setRow W4.heap.size (cur.toList.take 0 ++ (row.map (Value.int .i64) ++ cur.toList.drop (0 + (row.map (Value.int .i64)).length))).toArray) (k := .i64) (l := row) (b := W4.heap.size) (off := 0) (cap := n) (by have := HNN.out; omega) (by omega) fun i hi => by
        rw [cell_of_row _ _ _ _ _ _ (setRow_heap w5 W4.heap.size _ _ _ _ HCUR.out)]
        simp [List.getElem?_append_left, hi]
      rw [← HNN.out] at this
      simpa using this
    · have hd : decide (rowOf (nxS ks) (zeroS ks) < 0) = false := decide_eq_false hr
      have HR : Hid (¬ rowOf (nxS ks) (zeroS ks) < 0) := Lib.hid hr
      rw [hd]
      clear hr hd
      go_wp2_with fail
      refine bodyPost_ret (v := .tuple #[.slice none 0 0, .int .i64 17]) (by simp [results, Try.results31, go_sem]) rfl ?_
      have h17 : circleErr ks = 17 := by rw [HCE.out, if_neg (Int.not_lt.2 HR.out)]
      exact ⟨_, [], by rw [h17], HW.out.trans' (HE1.out.trans' (HE2.out.trans' HE3.out)), IsInts.nil _ _, fun _ => rfl, fun h => (by rw [h17] at h; cases h), fun h => (by rw [h17] at h; cases h), fun h => (by rw [h17] at h; cases h), fun h => (by rw [h17] at h; cases h), by simp⟩
  · have e1 : (t == 0) = false := by simpa using hc
    have e2 : (t != 0) = true := by simpa using hc
    have HC := Lib.hid hc
    clear hc
    go_wp2_with fail
    refine bodyPost_ret (v := .tuple #[.slice none 0 0, .int .i64 t]) (by simp [results, Try.results31, go_sem]) rfl ?_
    have ht2 : circleErr ks = t := by unfold circleErr; rw [if_pos (by rw [← HT.out]; exact HC.out), HT.out]
    have h0 : ¬ circleErr ks = 0 := by rw [ht2]; exact HC.out
    exact ⟨_, [], by rw [ht2], HW.out.trans' HE1.out, IsInts.nil _ _, fun _ => rfl, fun h => absurd h h0, fun h => absurd h h0, fun h => absurd h h0, fun h => absurd h h0, by simp⟩
end Go.Proofs.Ytndgaklcnhoddaa
