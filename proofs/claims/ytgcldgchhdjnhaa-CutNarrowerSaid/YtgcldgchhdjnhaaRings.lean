/-
  The walk of CheckRings.
-/
import Derived.Test.YtgcldgchhdjnhaaIdx2
import Derived.Test.YtgcldgchhdjnhaaFollow
import Derived.Test.YtgcldgchhdjnhaaOwn
import Derived.Lib.SliceRun
namespace Go.Proofs.Ytgcldgchhdjnhaa
open Go.RowKit Go.Shelf

/-- lists of steps in memory: each slice's value, and its steps -/
def IsRngs (w : World) (v : Value) (ps : List (Value × List Stp)) : Prop := IsRows w 1 v (ps.map fun x => [x.1]) ∧ ∀ x ∈ ps, IsStps w x.1 x.2
theorem IsRngs.ext {w w' : World} (h : Ext w w') {v : Value} {ps : List (Value × List Stp)} (hr : IsRngs w v ps) : IsRngs w' v ps := ⟨IsRows.ext h hr.1, fun x hx => (hr.2 x hx).ext h⟩
theorem IsRngs.spec {w : World} {v : Value} {ps : List (Value × List Stp)} (h : IsRngs w v ps) :
    ∃ sa cap, v = .slice sa ps.length cap ∧ ps.length ≤ cap ∧ cap ≤ 9223372036854775807 ∧ (ps = [] ∨ ∃ b off, sa = some ⟨b, off, none⟩ ∧ ∀ i, (h : i < ps.length) → w.cell? ⟨b, off + i, none⟩ = some ps[i].1) := by
  obtain ⟨⟨sa, cap, h1, h2, h3, h4⟩, _⟩ := h
  refine ⟨sa, cap, by simpa using h1, by simpa using h2, h3, ?_⟩
  rcases h4 with h4 | ⟨b, off, e, h4⟩
  · exact .inl (by simpa using h4)
  · refine .inr ⟨b, off, e, fun i hi => ?_⟩
    have := h4 i (by simpa using hi) 0 (by simp)
    simpa using this
theorem IsRngs.opened {w : World} {sa : Option Addr} {n cap : Nat} {ps : List (Value × List Stp)} (h : IsRngs w (.slice sa n cap) ps) :
    (ps = [] ∨ ∃ b off, sa = some ⟨b, off, none⟩ ∧ ∀ i, (h : i < ps.length) → w.cell? ⟨b, off + i, none⟩ = some ps[i].1) := by
  obtain ⟨_, _, e, _, _, h3⟩ := h.spec
  cases e
  exact h3

set_option maxHeartbeats 400000 in
theorem rings1_any (sv : Value) (l : List Stp) (w : World) (hv : IsStps w sv l) :
    Calls Try.prog 79 #[sv] w fun e w' => e = .returned (.bool (decide (200 < l.length))) ∧ Ext w w' := by
  obtain ⟨sa, cap, rfl, hl1, hl2, -⟩ := hv.spec
  clear hv
  go_enter Try.func79, Try.ntmps79
  go_wp2
  go_ret
  exact ⟨ret_bool (by simp; omega), (by repeat (first | exact Below.refl _ _ | refine Ext.al ?_ _ | refine Ext.dr ?_ | refine Ext.drN ?_ _ | refine Ext.gr ?_ _ | refine Ext.set ?_ (by simp) _ | (refine Ext.trans' ?_ (by assumption))))⟩

set_option maxHeartbeats 400000 in
theorem rings2_any (h : Hall) (sv lv : Value) (l : List Stp) (a : Addr) (b r : Nat) (w : World) (ha : w.cell? a = some (.pointer (some ⟨b, 0, none⟩))) (has : a.spot = none) (hs : SheetAt w b r h sv) (hv : IsStps w lv l) :
    Calls Try.prog 81 #[lv, .pointer (some a)] w fun e w' => e = .returned (.bool (l.any (oddS h))) ∧ Ext w w' := by
  obtain ⟨ab, ao, sp⟩ := a
  obtain rfl : sp = none := has
  obtain ⟨sa, cap, rfl, hl1, hl2, -⟩ := hv.spec
  have HV := Lib.hid hv
  have HS := Lib.hid hs
  clear hv hs
  go_enter Try.func81, Try.ntmps81
  go_wp2_with fail
  refine (containsFuncStpB l sa cap 71 #[.pointer (some ⟨b, 0, none⟩)] #[] (oddS h) _ (by omega) HV.out.opened
        (fun args W => Try.call71 args W) (fun x _ W hW => odd_any h _ x b r W (HS.out.ext hW))).mono ?_
  rintro e W' ⟨rfl, hb⟩
  go_wp2
  go_ret
  exact ⟨rfl, hb⟩

set_option maxHeartbeats 400000 in
theorem rings3_any (h : Hall) (sv lv : Value) (l : List Stp) (v : Valid h) (hl : ∀ x ∈ l, okStp h x = true) (h200 : l.length ≤ 200) (a : Addr) (b r : Nat) (w : World) (ha : w.cell? a = some (.pointer (some ⟨b, 0, none⟩))) (has : a.spot = none) (hs : SheetAt w b r h sv) (hv : IsStps w lv l) :
    Calls Try.prog 82 #[lv, .pointer (some a)] w fun e w' => e = .returned (.bool (!isRingM h l)) ∧ Ext w w' := by
  obtain ⟨ab, ao, sp⟩ := a
  obtain rfl : sp = none := has
  have HV := Lib.hid hv
  have HS := Lib.hid hs
  have V := Lib.hid v
  have HL := Lib.hid hl
  clear hv hs v hl
  go_enter Try.func82, Try.ntmps82
  go_wp2_with fail
  refine (isRing_any h sv lv l V.out HL.out h200 b r _ HS.out HV.out).mono ?_
  rintro e W' ⟨rfl, hb⟩
  cases hh : isRingM h l
  all_goals
    go_wp2
    go_ret
    exact ⟨by rw [hh]; rfl, hb⟩

/-- ten numbers in a block -/
def BlkA (W : World) (g : Nat) (a : Nat → Int) : Prop := ∃ cur, W.heap[g]? = some (.cells cur 117 (0, 0)) ∧ cur.size = 10 ∧ ∀ i, i < 10 → cur[i]? = some (.int .i64 (a i))
section
variable {W : World} {g : Nat} {a : Nat → Int} (b : BlkA W g a)
include b
theorem BlkA.lt : g < W.heap.size := by obtain ⟨cur, h, _⟩ := b; exact (Array.getElem?_eq_some_iff.1 h).1
theorem BlkA.cell {i : Nat} (hi : i < 10) : W.cell? ⟨g, i, none⟩ = some (.int .i64 (a i)) := by
  obtain ⟨cur, h1, _, h3⟩ := b
  rw [cell_of_row _ _ _ _ _ _ h1]; exact h3 i hi
theorem BlkA.free (o : Nat) : W.frozen? ⟨g, o, none⟩ = false := by
  obtain ⟨cur, h1, _⟩ := b
  simp [World.frozen?, h1]
theorem BlkA.ext {W' : World} (e : Ext W W') : BlkA W' g a := by
  have hl := b.lt
  obtain ⟨cur, h1, h2⟩ := b
  exact ⟨cur, (e.block g hl).trans h1, h2⟩
theorem BlkA.set {i : Nat} (hi : i < 10) (v : Int) : BlkA (W.setCell ⟨g, i, none⟩ (.int .i64 v)) g (upd a i v) := by
  obtain ⟨cur, h1, h2, h3⟩ := b
  refine ⟨_, heap_setCell_row h1 _ _, by simpa using h2, fun j hj => ?_⟩
  unfold upd
  by_cases e : i = j
  · subst e; rw [set_on _ (by omega), if_pos rfl]
  · rw [set_off _ e, if_neg (Ne.symm e)]; exact h3 j hj
end
theorem zeroI (w : World) : (zeroValue 3).run Try.prog w = .ok (.int .i64 0) w := by kernel_rfl
theorem blkA_zero {W : World} {g : Nat} (h : W.heap[g]? = some (.cells #[.int .i64 0, .int .i64 0, .int .i64 0, .int .i64 0, .int .i64 0, .int .i64 0, .int .i64 0, .int .i64 0, .int .i64 0, .int .i64 0] 117 (0, 0))) : BlkA W g (fun _ => 0) :=
  ⟨_, h, rfl, fun i hi => match i, hi with | 0, _ => rfl | 1, _ => rfl | 2, _ => rfl | 3, _ => rfl | 4, _ => rfl | 5, _ => rfl | 6, _ => rfl | 7, _ => rfl | 8, _ => rfl | 9, _ => rfl | n + 10, h => absurd h (by omega)⟩
theorem blkA_clear : ∀ (n o : Nat) {W : World} {g : Nat} {a : Nat → Int}, BlkA W g a → o + n ≤ 10 → (∀ i, i < o → a i = 0) → ∃ a', BlkA (W.setCells g o (List.replicate n (.int .i64 0))) g a' ∧ ∀ i, i < o + n → a' i = 0
  | 0, o, W, g, a, h, _, hz => ⟨a, h, hz⟩
  | n + 1, o, W, g, a, h, hn, hz => by
    rw [List.replicate_succ, World.setCells]
    obtain ⟨a', h1, h2⟩ := blkA_clear n (o + 1) (h.set (i := o) (by omega) 0) (by omega) fun i hi => by
      unfold upd
      by_cases e : i = o
      · rw [if_pos e]
      · rw [if_neg e]; exact hz i (by omega)
    exact ⟨a', h1, fun i hi => h2 i (by omega)⟩
theorem BlkA.cong {W : World} {g : Nat} {a a' : Nat → Int} (h : BlkA W g a) (e : ∀ i, i < 10 → a i = a' i) : BlkA W g a' := by
  obtain ⟨cur, h1, h2, h3⟩ := h
  exact ⟨cur, h1, h2, fun i hi => by rw [← e i hi]; exact h3 i hi⟩
theorem setCells_below {B g : Nat} (hB : B ≤ g) : ∀ (l : List Value) (o : Nat) {w W : World}, Below B w W → Below B w (W.setCells g o l)
  | [], _, _, _, h => h
  | v :: l, o, _, _, h => setCells_below hB l (o + 1) (h.setCell (p := ⟨g, o, none⟩) hB v)
set_option maxRecDepth 100000 in
set_option maxHeartbeats 4000000 in
theorem checkRings_any (h : Hall) (sv rv : Value) (ps : List (Value × List Stp)) (w : World) (hs : IsCnts w sv h.cs) (hv : IsRngs w rv ps) :
    Calls Try.prog 34 #[.agg #[.int .i64 h.n, .int .i64 h.most, sv], rv] w fun e w' =>
      e = .returned (.tuple #[.int .i64 (ringsN h (ps.map (·.2))), .int .i64 (ringsErr h (ps.map (·.2)))]) ∧ Ext w w' := by
  obtain ⟨ca, ccap, rfl, hm1, hm2, -⟩ := hs.spec
  obtain ⟨ra, rcap, rfl, hr1, hr2, -⟩ := hv.spec
  have HS := Lib.hid hs
  have HV := Lib.hid hv
  clear hs hv
  obtain ⟨E, hE⟩ : ∃ E, E = ringsErr h (ps.map (·.2)) := ⟨_, rfl⟩
  obtain ⟨C, hC⟩ : ∃ C, C = ringsN h (ps.map (·.2)) := ⟨_, rfl⟩
  have HERR := Lib.hid hE
  have HCNT := Lib.hid hC
  rw [← hE, ← hC]
  clear hE hC
  by_cases hc : chk h = 0
  rotate_left
  · go_enter Try.func34, Try.ntmps34
    go_wp2_with fail
    refine (open_bad h (.slice ca h.cs.length ccap) (.slice none 0 0) [] _ (HS.out.ext (by repeat (first | exact Below.refl _ _ | refine Ext.al ?_ _ | refine Ext.dr ?_ | refine Ext.drN ?_ _ | refine Ext.gr ?_ _ | refine Ext.set ?_ (by simp) _ | (refine Ext.trans' ?_ (by assumption))))) (IsInts.nil _ _) (by rw [openE_nil]; exact hc)).mono ?_
    rintro e W1 ⟨rfl, hb1⟩
    rw [openE_nil]
    have HE1 := Lib.hid (Ext.trans' (by exact (by repeat (first | exact Below.refl _ _ | refine Ext.al ?_ _ | refine Ext.dr ?_ | refine Ext.drN ?_ _ | refine Ext.gr ?_ _ | refine Ext.set ?_ (by simp) _ | (refine Ext.trans' ?_ (by assumption))))) hb1 : Ext w W1)
    clear hb1
    have hc' : (chk h == 0) = false := by simpa using hc
    have HC := Lib.hid hc
    clear hc
    go_wp2_with fail
    refine bodyPost_ret (v := .tuple #[.int .i64 0, .int .i64 (chk h)]) (by simp [results, Try.results34, go_sem]) rfl ?_
    exact ⟨ret_ii (by rw [HCNT.out, ringsN, ringsErr_chk HC.out, if_neg HC.out]) (by rw [HERR.out, ringsErr_chk HC.out]), Ext.al HE1.out _⟩
  have V := Lib.hid (valid_of_chk hc)
  go_enter Try.func34, Try.ntmps34
  go_wp2_with fail
  refine (open_ok h (.slice ca h.cs.length ccap) (.slice none 0 0) [] _ (HS.out.ext (by repeat (first | exact Below.refl _ _ | refine Ext.al ?_ _ | refine Ext.dr ?_ | refine Ext.drN ?_ _ | refine Ext.gr ?_ _ | refine Ext.set ?_ (by simp) _ | (refine Ext.trans' ?_ (by assumption))))) (IsInts.nil _ _) (by rw [openE_nil]; exact hc)).mono ?_
  rintro e W1 ⟨b, r, rfl, hb1, hsh⟩
  have HE1 := Lib.hid (Ext.trans' (by exact (by repeat (first | exact Below.refl _ _ | refine Ext.al ?_ _ | refine Ext.dr ?_ | refine Ext.drN ?_ _ | refine Ext.gr ?_ _ | refine Ext.set ?_ (by simp) _ | (refine Ext.trans' ?_ (by assumption))))) hb1 : Ext w W1)
  have HSh := Lib.hid hsh
  have HC := Lib.hid hc
  clear hb1 hsh hc
  by_cases h20 : 20 < ps.length
  · have h20' : decide ((20 : Int) < (ps.length : Int)) = true := by simp; omega
    go_wp2_with fail
    refine bodyPost_ret (v := .tuple #[.int .i64 0, .int .i64 6]) (by simp [results, Try.results34, go_sem]) rfl ?_
    have e : ringsErr h (ps.map (·.2)) = 6 := by unfold ringsErr; rw [if_neg (by simpa using HC.out), if_pos (.inl (by simpa using h20))]
    exact ⟨ret_ii (by rw [HCNT.out, ringsN, e]; rfl) (by rw [HERR.out, e]), Ext.al HE1.out _⟩
  have h20' : decide ((20 : Int) < (ps.length : Int)) = false := by simp; omega
  go_wp2_with fail
  refine (containsFuncRng ps ra rcap 79 #[] (fun x => decide (200 < x.2.length)) _ (by omega) (HV.out.ext (by exact Ext.al HE1.out _)).opened
    (fun args W => Try.call79 args W) (fun x hx W hW => rings1_any x.1 x.2 W ((HV.out.ext (Ext.trans' (Ext.al HE1.out _) hW)).2 x hx))).mono ?_
  rintro e W2 ⟨rfl, hb2⟩
  have kp := cell_ext hb2 (a := ⟨W1.heap.size, 0, none⟩) (v := .pointer (some ⟨b, 0, none⟩)) (by simp [go_sem])
  have hE12 : Ext W1 W2 := Ext.trans' (by exact (by repeat (first | exact Below.refl _ _ | refine Ext.al ?_ _ | refine Ext.dr ?_ | refine Ext.drN ?_ _ | refine Ext.gr ?_ _ | refine Ext.set ?_ (by simp) _ | (refine Ext.trans' ?_ (by assumption))))) hb2
  have HE2 := Lib.hid (HE1.out.trans' hE12)
  have HSh2 := Lib.hid (HSh.out.ext hE12)
  clear hb2 hE12
  have hany1 : (ps.map (·.2)).any (fun r => decide (200 < r.length)) = ps.any (fun x => decide (200 < x.2.length)) := by rw [List.any_map]; rfl
  have hany2 : (ps.map (·.2)).any (fun r => r.any (oddS h)) = ps.any (fun x => x.2.any (oddS h)) := by rw [List.any_map]; rfl
  have hany3 : (ps.map (·.2)).any (fun r => !isRingM h r) = ps.any (fun x => !isRingM h x.2) := by rw [List.any_map]; rfl
  have HA1 := Lib.hid hany1
  have HA2 := Lib.hid hany2
  have HA3 := Lib.hid hany3
  clear hany1 hany2 hany3
  cases h200 : ps.any (fun x => decide (200 < x.2.length))
  rotate_left
  · have H2 := Lib.hid h200
    clear h200
    go_wp2_with fail
    refine bodyPost_ret (v := .tuple #[.int .i64 0, .int .i64 6]) (by simp [results, Try.results34, go_sem]) rfl ?_
    have e : ringsErr h (ps.map (·.2)) = 6 := by unfold ringsErr; rw [if_neg (by simpa using HC.out), if_pos (.inr (by rw [HA1.out, H2.out]))]
    exact ⟨ret_ii (by rw [HCNT.out, ringsN, e]; rfl) (by rw [HERR.out, e]), HE2.out⟩
  have hn6 : ¬ (20 < (ps.map (·.2)).length ∨ (ps.map (·.2)).any (fun r => decide (200 < r.length)) = true) := by
    rw [HA1.out, h200]; simp; omega
  have hlen : ∀ x ∈ ps, x.2.length ≤ 200 := fun x hx => by
    have := List.any_eq_false.1 h200 x hx
    simpa using this
  have HN6 := Lib.hid hn6
  have HLEN := Lib.hid hlen
  clear hn6 hlen h200
  go_wp2_with fail
  refine (containsFuncRng ps ra rcap 81 #[.pointer (some ⟨W1.heap.size, 0, none⟩)] (fun x => x.2.any (oddS h)) _ (by omega) (HV.out.ext HE2.out).opened
    (fun args W => Try.call81 args W) (fun x hx W hW => rings2_any h _ x.1 x.2 ⟨W1.heap.size, 0, none⟩ b r W (cell_ext hW kp) rfl (HSh2.out.ext hW) ((HV.out.ext (HE2.out.trans' hW)).2 x hx))).mono ?_
  rintro e W3 ⟨rfl, hb3⟩
  replace kp := cell_ext hb3 kp
  have HE3 := Lib.hid (HE2.out.trans' hb3)
  have HSh3 := Lib.hid (HSh2.out.ext hb3)
  clear hb3
  cases hodd : ps.any (fun x => x.2.any (oddS h))
  rotate_left
  · have H2 := Lib.hid hodd
    clear hodd
    go_wp2_with fail
    refine bodyPost_ret (v := .tuple #[.int .i64 0, .int .i64 3]) (by simp [results, Try.results34, go_sem]) rfl ?_
    have e : ringsErr h (ps.map (·.2)) = 3 := by unfold ringsErr; rw [if_neg (by simpa using HC.out), if_neg HN6.out, if_pos (by rw [HA2.out, H2.out])]
    exact ⟨ret_ii (by rw [HCNT.out, ringsN, e]; rfl) (by rw [HERR.out, e]), HE3.out⟩
  have hok : ∀ x ∈ ps, ∀ y ∈ x.2, okStp h y = true := fun x hx => any_odd (by simpa using List.any_eq_false.1 hodd x hx)
  have HOK := Lib.hid hok
  have HODD := Lib.hid hodd
  clear hok hodd
  go_wp2_with fail
  refine (containsFuncRng ps ra rcap 82 #[.pointer (some ⟨W1.heap.size, 0, none⟩)] (fun x => !isRingM h x.2) _ (by omega) (HV.out.ext HE3.out).opened
    (fun args W => Try.call82 args W) (fun x hx W hW => rings3_any h _ x.1 x.2 V.out (HOK.out x hx) (HLEN.out x hx) ⟨W1.heap.size, 0, none⟩ b r W (cell_ext hW kp) rfl (HSh3.out.ext hW) ((HV.out.ext (HE3.out.trans' hW)).2 x hx))).mono ?_
  rintro e W4 ⟨rfl, hb4⟩
  have HE4 := Lib.hid (HE3.out.trans' hb4)
  clear hb4 kp
  cases hring : ps.any (fun x => !isRingM h x.2)
  rotate_left
  · have H2 := Lib.hid hring
    clear hring
    go_wp2_with fail
    refine bodyPost_ret (v := .tuple #[.int .i64 0, .int .i64 16]) (by simp [results, Try.results34, go_sem]) rfl ?_
    have e : ringsErr h (ps.map (·.2)) = 16 := by unfold ringsErr; rw [if_neg (by simpa using HC.out), if_neg HN6.out, if_neg (by rw [HA2.out, HODD.out]; simp), if_pos (by rw [HA3.out, H2.out])]
    exact ⟨ret_ii (by rw [HCNT.out, ringsN, e]; rfl) (by rw [HERR.out, e]), HE4.out⟩
  have he : ringsErr h (ps.map (·.2)) = if marks (fun _ => 0) 0 (ps.map (·.2)) then 0 else 14 := by
    unfold ringsErr; rw [if_neg (by simpa using HC.out), if_neg HN6.out, if_neg (by rw [HA2.out, HODD.out]; simp), if_neg (by rw [HA3.out, hring]; simp)]
  have HER2 := Lib.hid he
  clear he hring
  have hcl : ∀ ty, (Builtin.clear_ #[56] ty #[.slice (some ⟨W4.heap.size, 0, none⟩) 10 10]).run Try.prog (W4.alloc (.cells #[.int .i64 0, .int .i64 0, .int .i64 0, .int .i64 0, .int .i64 0, .int .i64 0, .int .i64 0, .int .i64 0, .int .i64 0, .int .i64 0] 117)) = .ok (.tuple #[]) ((W4.alloc (.cells #[.int .i64 0, .int .i64 0, .int .i64 0, .int .i64 0, .int .i64 0, .int .i64 0, .int .i64 0, .int .i64 0, .int .i64 0, .int .i64 0] 117)).setCells W4.heap.size 0 (List.replicate 10 (.int .i64 0))) := fun ty => by
    have hb := blkA_zero (World.alloc_heap_new W4 (.cells #[.int .i64 0, .int .i64 0, .int .i64 0, .int .i64 0, .int .i64 0, .int .i64 0, .int .i64 0, .int .i64 0, .int .i64 0, .int .i64 0] 117))
    exact Lib.run_clear_slice _ 56 3 ty (.int .i64 0) (by kernel_rfl) zeroI rfl rfl W4.heap.size 0 10 10 (by omega) (fun j hj => by rw [Nat.zero_add, hb.cell hj]; rfl) (fun j hj => hb.free _)
  obtain ⟨a0, hA0, hz0⟩ := blkA_clear 10 0 (blkA_zero (World.alloc_heap_new W4 (.cells #[.int .i64 0, .int .i64 0, .int .i64 0, .int .i64 0, .int .i64 0, .int .i64 0, .int .i64 0, .int .i64 0, .int .i64 0, .int .i64 0] 117))) (by omega) (fun _ _ => rfl)
  simp only [List.replicate_succ, List.replicate_zero] at hA0
  have hAA := hA0.cong (a' := fun _ => 0) (fun i hi => hz0 i (by omega))
  have HAA := Lib.hid hAA
  have hE5 : Ext W4 ((W4.alloc (.cells #[.int .i64 0, .int .i64 0, .int .i64 0, .int .i64 0, .int .i64 0, .int .i64 0, .int .i64 0, .int .i64 0, .int .i64 0, .int .i64 0] 117)).setCells W4.heap.size 0 [.int .i64 0, .int .i64 0, .int .i64 0, .int .i64 0, .int .i64 0, .int .i64 0, .int .i64 0, .int .i64 0, .int .i64 0, .int .i64 0]) := setCells_below (Nat.le_refl _) _ _ (by exact (by repeat (first | exact Below.refl _ _ | refine Ext.al ?_ _ | refine Ext.dr ?_ | refine Ext.drN ?_ _ | refine Ext.gr ?_ _ | refine Ext.set ?_ (by simp) _ | (refine Ext.trans' ?_ (by assumption)))))
  have HE5 := Lib.hid hE5
  clear hA0 hz0 hAA hE5
  go_wp2_with (simp only [hcl])
  clear hcl
  generalize (W4.alloc (.cells #[.int .i64 0, .int .i64 0, .int .i64 0, .int .i64 0, .int .i64 0, .int .i64 0, .int .i64 0, .int .i64 0, .int .i64 0, .int .i64 0] 117)).setCells W4.heap.size 0 [.int .i64 0, .int .i64 0, .int .i64 0, .int .i64 0, .int .i64 0, .int .i64 0, .int .i64 0, .int .i64 0, .int .i64 0, .int .i64 0] = W5 at *
  have hps20 : ps.length ≤ 20 := by omega
  obtain ⟨g, hg⟩ : ∃ g, g = W4.heap.size := ⟨_, rfl⟩
  have HG : Hid (g = W4.heap.size) := Lib.hid hg
  have HAg : Hid (BlkA W5 g fun _ => 0) := Lib.hid (by rw [hg]; exact HAA.out)
  rw [← hg]
  clear hg HAA
  go_loopw [43] (fun i W => ∃ (k : Nat) (a : Nat → Int), k ≤ ps.length ∧ i = .int .i64 k ∧ Ext W4 W ∧ BlkA W g a ∧ (∀ i, i < 10 → 0 ≤ a i ∧ a i ≤ 20) ∧ marks a k ((ps.map (·.2)).drop k) = marks (fun _ => 0) 0 (ps.map (·.2))) (fun i _ => ps.length - (intOf i).toNat)
  case atStart => exact ⟨0, fun _ => 0, by omega, rfl, HE5.out, HAg.out, fun _ _ => by simp, rfl⟩
  case round =>
    obtain ⟨k, a, hk, rfl, hE, hA, hab, hm⟩ := hrel
    have HE6 := Lib.hid hE
    have HA := Lib.hid hA
    have HAB := Lib.hid hab
    have HM := Lib.hid hm
    clear hab hm
    by_cases hlt : k < ps.length
    · rcases (HV.out.ext (HE4.out.trans' hE)).opened with e | ⟨rb, ro, rfl, hrc⟩
      · simp [e] at hlt
      have hck := hrc k hlt
      have hst := HV.out.2 ps[k] (List.getElem_mem hlt)
      have hok := HOK.out ps[k] (List.getElem_mem hlt)
      have hl2 := HLEN.out ps[k] (List.getElem_mem hlt)
      have hmk := marks_drop (a := a) (i := k) (ll := ps.map (·.2)) (k := k) (by simpa using hlt)
      rw [List.getElem_map] at hmk
      have HMK := Lib.hid hmk
      generalize ps[k] = pk at *
      obtain ⟨pv, pl⟩ := pk
      simp only at hst hok hl2 hck
      obtain ⟨la, lcap, rfl, hl3, hl4, -⟩ := hst.spec
      have HST := Lib.hid hst
      have HOKX := Lib.hid hok
      clear hrc hst hok hmk hE hA
      obtain ⟨w6, rfl⟩ : ∃ w6 : World, w6 = wr := ⟨_, rfl⟩
      go_wp2_with fail
      clear hck
      go_loopw [50] (fun i W => ∃ (j : Nat) (a' : Nat → Int), j ≤ pl.length ∧ i = .int .i64 j ∧ Ext W4 W ∧ BlkA W g a' ∧ (∀ i, i < 10 → 0 ≤ a' i ∧ a' i ≤ 20) ∧ mark a' k (pl.drop j) = mark a k pl) (fun i _ => pl.length - (intOf i).toNat)
      case atStart => exact ⟨0, a, by omega, rfl, HE6.out, HA.out, HAB.out, rfl⟩
      case round =>
        obtain ⟨j, a', hj, rfl, hE, hA, hab, hm⟩ := hrel
        have hst := HST.out.ext (HE4.out.trans' hE)
        have HE7 := Lib.hid hE
        have HA7 := Lib.hid hA
        have HAB7 := Lib.hid hab
        have HM7 := Lib.hid hm
        have hgw := hA.lt
        by_cases hltj : j < pl.length
        · rcases hst.opened with e | ⟨lb, lo, rfl, hlc⟩
          · simp [e] at hltj
          obtain ⟨c0, c1, c2⟩ := hlc j hltj
          have hokx := HOKX.out pl[j] (List.getElem_mem hltj)
          have hmd := mark_drop (a := a') (i := (k : Int)) hltj
          have HMD := Lib.hid hmd
          generalize pl[j] = x at *
          obtain ⟨xw, xi, xb⟩ := x
          clear hlc hE hA hst hab hm hmd
          cases xw
          · simp only at c0 c1 c2
            have hl10 := V.out.len
            simp [okStp] at hokx
            obtain ⟨x1, x2⟩ := hokx
            obtain ⟨n, rfl⟩ : ∃ n : Nat, xi = n := ⟨xi.toNat, by omega⟩
            have hn10 : n < 10 := by omega
            have hn10' : (n : Int) < 10 := by omega
            have hcell := HA7.out.cell hn10
            have hfree := HA7.out.free n
            have hbd := HAB7.out n hn10
            obtain ⟨y, hy⟩ : ∃ y, y = a' n := ⟨_, rfl⟩
            rw [← hy] at hcell hbd
            have HY := Lib.hid hy
            clear hy
            by_cases hbad : 0 < y ∧ y ≠ (k : Int) + 1
            · have hb1 : decide (0 < y) = true := by simpa using hbad.1
              have hb2 : (y == (k : Int) + 1) = false := by simpa using hbad.2
              have HBAD := Lib.hid hbad
              clear hbad
              go_wp2_with fail
              refine bodyPost_ret (v := .tuple #[.int .i64 0, .int .i64 14]) (by simp [results, Try.results34, go_sem]) rfl ?_
              have e0 : mark a k pl = none := by
                rw [← HM7.out, HMD.out]
                simp only [Bool.false_eq_true, if_false, Int.toNat_natCast]
                rw [if_pos (by rw [← HY.out]; exact HBAD.out)]
              have e : ringsErr h (ps.map (·.2)) = 14 := by
                rw [HER2.out, ← HM.out, HMK.out, e0]; rfl
              exact ⟨ret_ii (by rw [HCNT.out, ringsN, e]; rfl) (by rw [HERR.out, e]), HE4.out.trans' (Ext.al HE7.out _)⟩
            · have hset := (HA7.out.set hn10 ((k : Int) + 1)).ext (by exact Ext.al (Below.refl _ _) (.cells #[.bool false, .int .i64 (n : Int), .bool xb] 89))
              have HSET := Lib.hid hset
              have hmd2 : mark a' k (pl.drop j) = mark (upd a' n ((k : Int) + 1)) k (pl.drop (j + 1)) := by
                rw [HMD.out]
                simp only [Bool.false_eq_true, if_false, Int.toNat_natCast]
                rw [if_neg (by rw [← HY.out]; exact hbad)]
              have HMD2 := Lib.hid hmd2
              clear hset hmd2
              by_cases hy0 : 0 < y
              · have hb1 : decide (0 < y) = true := by simpa using hy0
                have hb2 : (y == (k : Int) + 1) = true := by simp; omega
                clear hbad
                go_wp2_with fail
                refine ⟨⟨j + 1, upd a' n ((k : Int) + 1), by omega, by go_num, Ext.al (Below.setCell HE7.out (by show W4.heap.size ≤ g; rw [HG.out]; exact Nat.le_refl _) _) _, HSET.out, fun i hi => ?_, by rw [← HMD2.out]; exact HM7.out⟩, by simp [intOf]; omega⟩
                unfold upd
                by_cases e : i = n
                · rw [if_pos e]; omega
                · rw [if_neg e]; exact HAB7.out i hi
              · have hb1 : decide (0 < y) = false := by simpa using hy0
                clear hbad
                go_wp2_with fail
                refine ⟨⟨j + 1, upd a' n ((k : Int) + 1), by omega, by go_num, Ext.al (Below.setCell HE7.out (by show W4.heap.size ≤ g; rw [HG.out]; exact Nat.le_refl _) _) _, HSET.out, fun i hi => ?_, by rw [← HMD2.out]; exact HM7.out⟩, by simp [intOf]; omega⟩
                unfold upd
                by_cases e : i = n
                · rw [if_pos e]; omega
                · rw [if_neg e]; exact HAB7.out i hi
          · have hmd3 : mark a' k (pl.drop j) = mark a' k (pl.drop (j + 1)) := by
              rw [HMD.out]; simp
            have HMD3 := Lib.hid hmd3
            clear hmd3 hokx
            go_wp2_with fail
            go_roundw
            case rel => exact ⟨j + 1, a', by omega, by go_num, Ext.al HE7.out _, HA7.out.ext (by exact (by repeat (first | exact Below.refl _ _ | refine Ext.al ?_ _ | refine Ext.dr ?_ | refine Ext.drN ?_ _ | refine Ext.gr ?_ _ | refine Ext.set ?_ (by simp) _ | (refine Ext.trans' ?_ (by assumption))))), HAB7.out, by rw [← HMD3.out]; exact HM7.out⟩
            case measure => simp [intOf]; omega
        · obtain rfl : j = pl.length := by omega
          have hm2 : mark a k pl = some a' := by rw [← hm, List.drop_length, mark]
          have HM2 := Lib.hid hm2
          clear hE hA hst hab hm hm2
          go_wp2_with fail
          go_roundw
          case rel =>
            refine ⟨k + 1, a', by omega, by go_num, HE7.out, HA7.out, HAB7.out, ?_⟩
            rw [← HM.out, HMK.out, HM2.out]
            rfl
          case measure => simp [intOf]; omega
    · obtain rfl : k = ps.length := by omega
      have hm2 : marks (fun _ => 0) 0 (ps.map (·.2)) = true := by
        rw [← HM.out, List.drop_of_length_le (by simp), marks]
      have e : ringsErr h (ps.map (·.2)) = 0 := by rw [HER2.out, hm2]; rfl
      have HEE := Lib.hid e
      clear hm2 e hE hA
      go_wp2_with fail
      refine bodyPost_ret (v := .tuple #[.int .i64 ps.length, .int .i64 0]) (by simp [results, Try.results34, go_sem]) rfl ?_
      exact ⟨ret_ii (by rw [HCNT.out, ringsN, HEE.out, if_pos rfl]; simp) (by rw [HERR.out, HEE.out]), HE4.out.trans' HE6.out⟩
end Go.Proofs.Ytgcldgchhdjnhaa
