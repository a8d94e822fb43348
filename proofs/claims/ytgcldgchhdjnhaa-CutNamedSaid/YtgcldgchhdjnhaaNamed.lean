/-
  The statement CutNamed holds: if counters come in another order, all spans stay, as many can be wrong, in as many lists, and kinds go with the counters; for every hall and any four numbers that are handed in. No condition.
-/
import Derived.Test.YtgcldgchhdjnhaaLawG
import Derived.Test.YtgcldgchhdjnhaaProved
import Derived.Test.YtgcldgchhdjnhaaBlameM
namespace Go.Proofs.Ytgcldgchhdjnhaa
open Go.RowKit Go.Shelf
theorem RowsAt.drop {w : World} {sz b off : Nat} {rows : List (List Value)} (h : RowsAt w sz b off rows) (k : Nat) : RowsAt w sz b (off + k * sz) (rows.drop k) := fun i hi j hj => by
  have hi' : k + i < rows.length := by simp at hi; omega
  have e : (rows.drop k)[i] = rows[k + i] := by simp
  rw [e] at hj
  have := h (k + i) hi' j hj
  rw [Nat.add_mul, ← Nat.add_assoc] at this
  rw [this]
  congr 1
  exact (List.getElem_of_eq e (by simpa using hj)).symm
theorem RowsAt.take {w : World} {sz b off : Nat} {rows : List (List Value)} (h : RowsAt w sz b off rows) (k : Nat) : RowsAt w sz b off (rows.take k) := fun i hi j hj => by
  have hi' : i < rows.length := by simp at hi; omega
  have e : (rows.take k)[i] = rows[i] := by simp
  rw [e] at hj
  have := h i hi' j hj
  rw [this]
  congr 1
  exact (List.getElem_of_eq e (by simpa using hj)).symm
theorem cnts_rows {w : World} {b off n cap : Nat} {l : List Cnt} (h : IsCnts w (.slice (some ⟨b, off, none⟩) n cap) l) : RowsAt w 4 b off (l.map Cnt.cells) := by
  obtain ⟨sa, cap', e, _, _, h4⟩ := h
  cases e
  rcases h4 with h4 | ⟨b', off', e, h4⟩
  · rw [h4]; exact fun i hi => by simp at hi
  · cases e; exact h4
theorem turn_agr {h : Hall} (v : Valid h) (t : Nat) : (leastM (turnH h t) 0).2 = (leastM h 0).2 := by
  rw [Bool.eq_iff_iff, agr_iff (turn_valid v t), agr_iff v]
  exact exists_congr fun d => pot_mem (h := h) (x := turnH h t) rfl rfl (turn_mem h t)
theorem turn_ds {h : Hall} (v : Valid h) (g : Agr h) (t : Nat) {a b : Nat} (ha : (a : Int) ≤ h.n) (hb : (b : Int) ≤ h.n) : ds (turnH h t) a b = ds h a b := by
  have hp : ∀ d, Pot (turnH h t) d ↔ Pot h d := fun d => pot_mem (h := h) (x := turnH h t) rfl rfl (turn_mem h t)
  have gt : Agr (turnH h t) := (agr_iff (turn_valid v t)).1 ((turn_agr v t).trans ((agr_iff v).2 g))
  have h1 := (ds_mono v (turn_valid v t) gt rfl fun d p => (hp d).1 p).2 a b ha hb
  have h2 := (ds_mono (turn_valid v t) v g rfl fun d p => (hp d).2 p).2 a b ha hb
  omega
theorem wrong_mem {h : Hall} (v : Valid h) : wrongL h ∈ fewestM h := (isWrong v).mem
theorem turn_wrong {h : Hall} (v : Valid h) {t : Nat} (ht : t < h.cs.length) : (wrongL (turnH h t)).length = (wrongL h).length := by
  have h1 := (turn_fewest v ht).mem_iff.2 (wrong_mem (turn_valid v t))
  obtain ⟨l, hl, e⟩ := List.mem_map.1 h1
  have hin := (fewM_mem hl)
  obtain ⟨i, _, _, hi, _, _⟩ := hin
  rw [← e, rot_len ht (List.mem_filter.1 hi).1, fewM_same h (wrong_mem v) hl, incs_len_eq _ _ _ (List.mem_filter.1 hi).1]
theorem turn_kindN {h : Hall} (v : Valid h) {t : Nat} (ht : t < h.cs.length) {k : Nat} (hk : k < h.cs.length) {q : Nat} (hq : q = (k + h.cs.length - t) % h.cs.length) : kindErr h k = 0 ∧ kindErr (turnH h t) q = 0 ∧ kindN (turnH h t) q = kindN h k := by
  have hql : q < h.cs.length := by rw [hq]; exact Nat.mod_lt _ (by omega)
  have e1 : kindErr h k = 0 := by unfold kindErr; rw [if_neg (fun hh => hh (chk_of_valid v)), if_neg (by omega)]
  have e2 : kindErr (turnH h t) q = 0 := by unfold kindErr; rw [if_neg (fun hh => hh (chk_of_valid (turn_valid v t))), turn_len, if_neg (by omega)]
  refine ⟨e1, e2, ?_⟩
  have hc := turn_kind v ht hk
  rw [← hq] at hc
  unfold kindN
  rw [e1, e2, hc, turn_lists v ht]
set_option maxRecDepth 100000 in
set_option maxHeartbeats 4000000 in
theorem cutNamed_any (h : Hall) (sv : Value) (f t g tn : Int) (w : World) (hs : IsCnts w sv h.cs) (wf : (Lit.int .u8 f).wf = true) (wt : (Lit.int .u8 t).wf = true) (wg : (Lit.int .u8 g).wf = true) (wn : (Lit.int .u8 tn).wf = true) :
    Calls Try.prog 15 #[.agg #[.int .i64 h.n, .int .i64 h.most, sv], .int .u8 f, .int .u8 t, .int .u8 g, .int .u8 tn] w fun e w' => e = .returned (.bool true) ∧ Ext w w' := by
  obtain ⟨sa, cap, rfl, hl1, hl2, hop⟩ := hs.spec
  obtain ⟨f0, f1⟩ := bounds_u8 wf
  obtain ⟨t0, t1⟩ := bounds_u8 wt
  obtain ⟨g0, g1'⟩ := bounds_u8 wg
  obtain ⟨u0, u1⟩ := bounds_u8 wn
  have HS0 := Lib.hid hs
  have HOP := Lib.hid (show h.cs = [] ∨ ∃ b off, sa = some ⟨b, off, none⟩ from hop.imp id fun ⟨b, off, e, _⟩ => ⟨b, off, e⟩)
  clear hs wf wt wg wn hop
  go_enter Try.func15, Try.ntmps15
  go_upto_region 1 with (fail)
  obtain ⟨W0, hW0⟩ : ∃ W0, W0 = w.alloc (.cells #[.int .i64 h.n, .int .i64 h.most, .slice sa h.cs.length cap] 24) := ⟨_, rfl⟩
  have hE : Ext w W0 := by rw [hW0]; exact (by repeat (first | exact Below.refl _ _ | refine Ext.al ?_ _ | refine Ext.dr ?_ | refine Ext.drN ?_ _ | refine Ext.gr ?_ _ | refine Ext.set ?_ (by simp) _ | (refine Ext.trans' ?_ (by assumption))))
  have k0 : W0.cell? ⟨w.heap.size, 0, none⟩ = some (.int .i64 h.n) := by rw [hW0]; simp [go_sem]
  have k1 : W0.cell? ⟨w.heap.size, 1, none⟩ = some (.int .i64 h.most) := by rw [hW0]; simp [go_sem]
  have k2 : W0.cell? ⟨w.heap.size, 2, none⟩ = some (.slice sa h.cs.length cap) := by rw [hW0]; simp [go_sem]
  have hz : w.heap.size < W0.heap.size := World.block_lt_of_cell? _ _ k0
  have HS := Lib.hid (HS0.out.ext hE)
  have HW := Lib.hid hE
  rw [← hW0]
  clear hW0 HS0
  clear hE

  go_wp2_with fail
  refine callW (W0 := W0) (g := ⟨W0, Below.refl _ _⟩) (by exact (by repeat (first | exact Below.refl _ _ | refine Ext.al ?_ _ | refine Ext.dr ?_ | refine Ext.drN ?_ _ | refine Ext.gr ?_ _ | refine Ext.set ?_ (by simp) _ | (refine Ext.trans' ?_ (by assumption))))) (fine_any h _ _ (HS.out.ext (by exact (by repeat (first | exact Below.refl _ _ | refine Ext.al ?_ _ | refine Ext.dr ?_ | refine Ext.drN ?_ _ | refine Ext.gr ?_ _ | refine Ext.set ?_ (by simp) _ | (refine Ext.trans' ?_ (by assumption))))))) fun g1 hgr => ?_
  clear hgr
  by_cases hc : chk h = 0
  rotate_left
  · rw [show (chk h == 0) = false by simpa using hc]
    clear hc

    go_wp2_with fail
    refine callW (W0 := W0) (g := g1) (by exact (by repeat (first | exact Below.refl _ _ | refine Ext.al ?_ _ | refine Ext.dr ?_ | refine Ext.drN ?_ _ | refine Ext.gr ?_ _ | refine Ext.set ?_ (by simp) _ | (refine Ext.trans' ?_ (by assumption))))) (works_any _) fun g2 hgr => ?_
    clear hgr
    go_wp2_with fail
    go_ret
    exact ⟨rfl, HW.out.trans' (grow_below W0 g2)⟩

  rw [show (chk h == 0) = true by simpa using hc]
  by_cases hn0 : h.cs.length = 0
  · have hn1 : ((h.cs.length : Int) == 0) = true := by simp [hn0]
    clear hn0 hc

    go_wp2_with fail
    refine callW (W0 := W0) (g := g1) (by exact (by repeat (first | exact Below.refl _ _ | refine Ext.al ?_ _ | refine Ext.dr ?_ | refine Ext.drN ?_ _ | refine Ext.gr ?_ _ | refine Ext.set ?_ (by simp) _ | (refine Ext.trans' ?_ (by assumption))))) (works_any _) fun g3 hgr => ?_
    clear hgr
    go_wp2_with fail
    go_ret
    exact ⟨rfl, HW.out.trans' (grow_below W0 g3)⟩

  have hn1 : ((h.cs.length : Int) == 0) = false := by simpa using hn0
  have V := Lib.hid (valid_of_chk hc)
  have n1 := V.out.n1
  have n10 := V.out.n10
  have hlen := V.out.len
  have HC := Lib.hid hc
  clear hc
  obtain ⟨cb, co, rfl⟩ : ∃ cb co, sa = some ⟨cb, co, none⟩ := by
    rcases HOP.out with e | ⟨b, off, e⟩
    · rw [e] at hn0; simp at hn0
    · exact ⟨b, off, e⟩
  clear HOP
  obtain ⟨K, hK, hKn⟩ := modN (n := (h.cs.length : Int)) g0 (by omega)
  obtain ⟨T, hT, hTn⟩ := modN (n := (h.cs.length : Int)) u0 (by omega)
  go_upto_region 4 with (fail)
  have hk1 : IntKind.i64.wrap g = g := IntWalk.i64_in _ (by omega)
  have hk2 : IntKind.i64.wrap tn = tn := IntWalk.i64_in _ (by omega)
  have hk3 : g.tmod (h.cs.length : Int) = (K : Int) := by rw [Int.tmod_eq_emod_of_nonneg g0]; exact hK
  have hk4 : tn.tmod (h.cs.length : Int) = (T : Int) := by rw [Int.tmod_eq_emod_of_nonneg u0]; exact hT
  have hnz : ¬ (h.cs.length : Int) = 0 := by omega
  clear hK hT
  go_quiet (fail)
  go_upto_region 5 with (fail)
  obtain ⟨W1, hW1⟩ : ∃ zz9, zz9 = (grow W0 g1).drewN nq := ⟨_, rfl⟩
  have eW1 : Ext W0 W1 := by rw [hW1]; exact (by repeat (first | exact Below.refl _ _ | refine Ext.al ?_ _ | refine Ext.dr ?_ | refine Ext.drN ?_ _ | refine Ext.gr ?_ _ | refine Ext.set ?_ (by simp) _ | (refine Ext.trans' ?_ (by assumption))))
  replace k0 := cell_ext eW1 k0
  replace k1 := cell_ext eW1 k1
  replace k2 := cell_ext eW1 k2
  replace HS := Lib.hid (HS.out.ext eW1)
  replace HW := Lib.hid (HW.out.trans' eW1)
  rw [← hW1]
  replace hz := World.block_lt_of_cell? _ _ k0
  clear hW1 eW1
  clear hk1 hk2 hk3 hk4 hnz
  go_upto_region 6 with (fail)
  obtain ⟨X1, hX1⟩ : ∃ X1, X1 = W1.alloc (.cells #[.int .i64 h.n, .int .i64 h.most, .slice none 0 0] 24) := ⟨_, rfl⟩
  have hE1 : Ext W1 X1 := by rw [hX1]; exact (by repeat (first | exact Below.refl _ _ | refine Ext.al ?_ _ | refine Ext.dr ?_ | refine Ext.drN ?_ _ | refine Ext.gr ?_ _ | refine Ext.set ?_ (by simp) _ | (refine Ext.trans' ?_ (by assumption))))
  have hjx : X1.heap[W1.heap.size]? = some (.cells #[.int .i64 h.n, .int .i64 h.most, .slice none 0 0] 24 (0, 0)) := by
    rw [hX1]
    show (Array.push _ _)[W1.heap.size]? = _
    rw [Array.getElem?_push, if_pos rfl]
  have hsz : X1.heap.size = W1.heap.size + 1 := by rw [hX1]; simp
  rw [← hX1]
  have k2x := cell_ext hE1 k2
  have hzx : w.heap.size < X1.heap.size := by have := World.block_lt_of_cell? _ _ k2x; simpa using this
  have HE1 := Lib.hid hE1
  have HJX := Lib.hid hjx
  have HSZ := Lib.hid hsz
  clear hX1 hE1 hjx hsz
  have hT0 : (0 : Int) ≤ (T : Int) := by omega
  have hTl : (T : Int) ≤ (h.cs.length : Int) := by omega
  have hTcx : ¬ cap < T := by omega
  have hTcn : ¬ cap = T := by omega
  refine wp_region_rove_tail rfl rfl (by kernel_rfl) (X1.heap.size) (Nat.le_refl _)
    [sqW (fun v W => IsNew W (X1.heap.size) 70 4 v) (fun _ _ _ h e => h.ext e),
     sqV (.pointer (some ⟨w.heap.size, 2, none⟩)),
     sqV (.slice (some ⟨cb, co, none⟩) h.cs.length cap),
     sqV (.int .i64 T),
     sqV (.slice (some ⟨cb, co + T * 4, none⟩) (h.cs.length - T) (cap - T)),
     sqW (fun v W => Owns W X1.heap.size 70 4 v ((h.cs.drop T).map Cnt.cells)) (fun _ _ _ h e => h.ext e),
     sqV (.pointer (some ⟨w.heap.size, 2, none⟩)),
     sqV (.slice (some ⟨cb, co, none⟩) h.cs.length cap),
     sqV (.int .i64 T),
     sqV (.slice (some ⟨cb, co, none⟩) T cap),
     sqW (fun v W => Owns W X1.heap.size 70 4 v ((h.cs.drop T).map Cnt.cells ++ (h.cs.take T).map Cnt.cells)) (fun _ _ _ h e => h.ext e),
     sqV (.pointer (some ⟨W1.heap.size, 2, none⟩))]
    [false, true, true, true, true, false, true, true, true, true, false, true] [false, false, false, false, false, false, false, false, false, false, true, false] [false, true, true, true, true, false, true, true, true, true, true, true] [true, true, true, true, true, true, true, true, true, true, true, false]
    (by kernel_rfl) (by kernel_rfl) (by decide +kernel) (by decide +kernel) (by decide +kernel) rfl rfl ⟨?s0, ?s1, ?s2, ?s3, ?s4, ?s5, ?s6, ?s7, ?s8, ?s9, ?s10, ?s11, trivial⟩ [some 55, some 56, some 57, some 58, some 59, some 60, some 61, some 62, some 63, some 64, some 65, some 66] rfl rfl ?send
  case s0 =>
    intro val ρ W hE hz hd hA hx
    exact runq_val (W' := W.alloc (.cells #[] 70)) (v := .slice (some ⟨W.heap.size, 0, none⟩) 0 0) (by simp [execOp, go_sem]) (by repeat (first | exact Below.refl _ _ | refine Ext.al ?_ _ | refine Ext.dr ?_ | refine Ext.drN ?_ _ | refine Ext.gr ?_ _ | refine Ext.set ?_ (by simp) _ | (refine Ext.trans' ?_ (by assumption)))) (isNew W _ _ _ (by omega))
  case s1 =>
    intro val ρ W hE hz hd hA hx
    have o0 : ρ (.tmp 5) = .pointer (some ⟨w.heap.size, 0, none⟩) := hA.old 5 (by decide)
    clear hd
    exact runq_val (W' := W) (by simp [execOp, o0, go_sem]) (Below.refl _ _) rfl
  case s2 =>
    intro val ρ W hE hz hd hA hx
    have d1 : ρ (.tmp 56) = .pointer (some ⟨w.heap.size, 2, none⟩) := (hA.dep 1 (by decide) 56 rfl).trans (hd 1 (by decide))
    have f_k2x := cell_below hE (by simp only; omega) k2x
    clear hd
    exact runq_val (W' := W) (by simp [execOp, d1, f_k2x, go_sem]) (Below.refl _ _) rfl
  case s3 =>
    intro val ρ W hE hz hd hA hx
    have o0 : ρ (.tmp 12) = .int .i64 T := hA.old 12 (by decide)
    clear hd
    exact runq_val (W' := W) (by simp [execOp, o0, go_sem]) (Below.refl _ _) rfl
  case s4 =>
    intro val ρ W hE hz hd hA hx
    have d2 : ρ (.tmp 57) = .slice (some ⟨cb, co, none⟩) h.cs.length cap := (hA.dep 2 (by decide) 57 rfl).trans (hd 2 (by decide))
    have d3 : ρ (.tmp 58) = .int .i64 T := (hA.dep 3 (by decide) 58 rfl).trans (hd 3 (by decide))
    clear hd
    exact runq_val (W' := W) (by simp [execOp, d2, d3, hTl, hTcn, go_sem]) (Below.refl _ _) rfl
  case s6 =>
    intro val ρ W hE hz hd hA hx
    have o0 : ρ (.tmp 5) = .pointer (some ⟨w.heap.size, 0, none⟩) := hA.old 5 (by decide)
    clear hd
    exact runq_val (W' := W) (by simp [execOp, o0, go_sem]) (Below.refl _ _) rfl
  case s7 =>
    intro val ρ W hE hz hd hA hx
    have d6 : ρ (.tmp 61) = .pointer (some ⟨w.heap.size, 2, none⟩) := (hA.dep 6 (by decide) 61 rfl).trans (hd 6 (by decide))
    have f_k2x := cell_below hE (by simp only; omega) k2x
    clear hd
    exact runq_val (W' := W) (by simp [execOp, d6, f_k2x, go_sem]) (Below.refl _ _) rfl
  case s8 =>
    intro val ρ W hE hz hd hA hx
    have o0 : ρ (.tmp 12) = .int .i64 T := hA.old 12 (by decide)
    clear hd
    exact runq_val (W' := W) (by simp [execOp, o0, go_sem]) (Below.refl _ _) rfl
  case s9 =>
    intro val ρ W hE hz hd hA hx
    have d7 : ρ (.tmp 62) = .slice (some ⟨cb, co, none⟩) h.cs.length cap := (hA.dep 7 (by decide) 62 rfl).trans (hd 7 (by decide))
    have d8 : ρ (.tmp 63) = .int .i64 T := (hA.dep 8 (by decide) 63 rfl).trans (hd 8 (by decide))
    clear hd
    exact runq_val (W' := W) (by simp [execOp, d7, d8, hTcx, go_sem]) (Below.refl _ _) rfl
  case s11 =>
    intro val ρ W hE hz hd hA hx
    have o0 : ρ (.tmp 14) = .pointer (some ⟨W1.heap.size, 0, none⟩) := hA.old 14 (by decide)
    clear hd
    exact runq_val (W' := W) (by simp [execOp, o0, go_sem]) (Below.refl _ _) rfl
  case s5 =>
    intro val ρ W hE hz hd hA hx
    have d0 : IsNew W X1.heap.size 70 4 (val 0) := hd 0 (by decide)
    have e0 : ρ (.tmp 55) = val 0 := hA.dep 0 (by decide) 55 rfl
    have d2 : ρ (.tmp 59) = .slice (some ⟨cb, co + T * 4, none⟩) (h.cs.length - T) (cap - T) := (hA.dep 4 (by decide) 59 rfl).trans (hd 4 (by decide))
    have hS : IsCnts W (.slice (some ⟨cb, co + T * 4, none⟩) (h.cs.length - T) (cap - T)) (h.cs.drop T) :=
      ⟨_, cap - T, by simp, by simp; omega, by omega, .inr ⟨cb, co + T * 4, rfl, by have := (cnts_rows (HS.out.ext (HE1.out.trans' hE))).drop T; rwa [← List.map_drop] at this⟩⟩
    obtain ⟨v', w', hrun, ho, he⟩ := app_new elCnt 22 _ d0 ((h.cs.drop T).map Cnt.cells) cnt_len hS cnt_one (by simp; omega) hz
    exact runq_append (.tmp 55) (.tmp 59) rfl rfl _ _ e0 d2 hrun he ho
  case s10 =>
    intro val ρ W hE hz hd hA hx
    have d3 : Owns W X1.heap.size 70 4 (val 5) ((h.cs.drop T).map Cnt.cells) := hd 5 (by decide)
    have e3 : ρ (.tmp 60) = val 5 := hA.dep 5 (by decide) 60 rfl
    have e5 : ρ (.tmp 64) = .slice (some ⟨cb, co, none⟩) ((h.cs.take T).map Cnt.cells).length cap := (hA.dep 9 (by decide) 64 rfl).trans ((hd 9 (by decide)).trans (by simp; omega))
    have hR : RowsAt W 4 cb co ((h.cs.take T).map Cnt.cells) := by
      have := (cnts_rows (HS.out.ext (HE1.out.trans (hE.mono (by have := HSZ.out; omega))))).take T
      rwa [← List.map_take] at this
    obtain ⟨v', w', hrun, ho, hb⟩ := app_run elCnt 22 X1.heap.size d3 cb co cap ((h.cs.take T).map Cnt.cells) cnt_len hR cnt_one (by simp; omega) hz
    exact runq_append (.tmp 60) (.tmp 64) rfl rfl _ _ e3 e5 hrun hb ho
  case send =>
    intro val WW hE hzz hv
    obtain ⟨-, -, -, -, -, -, -, -, -, -, r10, r11, -⟩ := hv
    have q10 : Owns WW X1.heap.size 70 4 (val 10) ((h.cs.drop T).map Cnt.cells ++ (h.cs.take T).map Cnt.cells) := r10
    have q11 : val 11 = .pointer (some ⟨W1.heap.size, 2, none⟩) := r11
    clear r10 r11
    obtain ⟨va, vn, vc, hv⟩ := q10.isSlice
    rw [hv] at q10
    have hvn : vn = h.cs.length := by have := q10.src.1; simp at this; omega
    subst hvn
    have hjw : WW.heap[W1.heap.size]? = some (.cells #[.int .i64 h.n, .int .i64 h.most, .slice none 0 0] 24 (0, 0)) := (hE.block _ (by have := HSZ.out; omega)).trans HJX.out
    have xw0 : WW.cell? ⟨W1.heap.size, 0, none⟩ = some (.int .i64 h.n) := by rw [cell_of_row _ _ _ _ _ _ hjw]; rfl
    have xw1 : WW.cell? ⟨W1.heap.size, 1, none⟩ = some (.int .i64 h.most) := by rw [cell_of_row _ _ _ _ _ _ hjw]; rfl
    have xw2 : WW.cell? ⟨W1.heap.size, 2, none⟩ = some (.slice none 0 0) := by rw [cell_of_row _ _ _ _ _ _ hjw]; rfl
    have xwf : WW.frozen? ⟨W1.heap.size, 2, none⟩ = false := by simp [World.frozen?, hjw]
    have hzw : W1.heap.size < WW.heap.size := World.block_lt_of_cell? _ _ xw2
    have hEW : Ext W1 WW := HE1.out.trans (hE.mono (by have := HSZ.out; omega))
    have hq := q10.of_heap (w' := WW.setCell ⟨W1.heap.size, 2, none⟩ (.slice va h.cs.length vc)) fun k hk _ => Below.heap_setCell _ _ _ _ (by have := HSZ.out; simp only; omega)
    have HEW := Lib.hid hEW
    have HJW := Lib.hid hjw
    clear hE hEW hjw q10
    simp only [putD, q11, hv]
    go_frame
    clear q11 hv k2x hzx hzz HE1 HJX
    go_upto_region 7 with (fail)
    obtain ⟨Z0, hZ0⟩ : ∃ zz9, zz9 = WW.setCell ⟨W1.heap.size, 2, none⟩ (.slice va h.cs.length vc) := ⟨_, rfl⟩
    have x0 : Z0.cell? ⟨W1.heap.size, 0, none⟩ = some (.int .i64 h.n) := by rw [hZ0]; simp [go_sem, xw0, xw1, xw2]
    have x1 : Z0.cell? ⟨W1.heap.size, 1, none⟩ = some (.int .i64 h.most) := by rw [hZ0]; simp [go_sem, xw0, xw1, xw2]
    have x2 : Z0.cell? ⟨W1.heap.size, 2, none⟩ = some (.slice va h.cs.length vc) := by rw [hZ0]; simp [go_sem, xw0, xw1, xw2]
    have eZ0 : Ext W1 Z0 := by rw [hZ0]; exact (HEW.out.setCell (Nat.le_refl _) _)
    replace k0 := cell_ext eZ0 k0
    replace k1 := cell_ext eZ0 k1
    replace k2 := cell_ext eZ0 k2
    replace HS := Lib.hid (HS.out.ext eZ0)
    replace HW := Lib.hid (HW.out.trans' eZ0)
    rw [← hZ0] at hq ⊢
    replace hz := World.block_lt_of_cell? _ _ k0
    clear hZ0 eZ0
    have hx : IsCnts Z0 (.slice va h.cs.length vc) (turnH h T).cs := by have := hq.isRows; rwa [← List.map_append] at this
    have HX := Lib.hid hx

    have zx := World.block_lt_of_cell? _ _ x0
    simp only at zx

    clear hq hx xw0 xw1 xw2 xwf hzw HEW HJW HSZ
    obtain ⟨A, hA, hAn⟩ := modN f0 n1
    obtain ⟨U, hU, hUn⟩ := modN (n := h.n - A) t0 (by omega)
    obtain ⟨B, hB⟩ : ∃ B : Nat, (A : Int) + U = B := ⟨A + U, by omega⟩
    have hAB : A ≤ B := by omega
    have hBn : (B : Int) < h.n := by omega
    go_upto_region 9 with (fail)
    simp only [hA, hU]
    clear hA hU hB f0 f1 t0 t1
    have hTn' : T < h.cs.length := by omega
    have hKn' : K < h.cs.length := by omega
    obtain ⟨Q, hQ⟩ : ∃ Q, Q = (K + h.cs.length - T) % h.cs.length := ⟨_, rfl⟩
    obtain ⟨ke1, ke2, ke3⟩ := turn_kindN V.out hTn' hKn' hQ
    have HQ : Hid (((K : Int) + (h.cs.length : Int) - (T : Int)).tmod (h.cs.length : Int) = (Q : Int)) := Lib.hid (by
      rw [show (K : Int) + (h.cs.length : Int) - (T : Int) = ((K + h.cs.length - T : Nat) : Int) by omega, hQ]
      rfl)
    clear hQ
    have VT := turn_valid V.out T
    have d1 := fun w hs => span_any h (.slice (some ⟨cb, co, none⟩) h.cs.length cap) (A : Int) (B : Int) w hs
    have d2 := fun w hs => span_any (turnH h T) (.slice va h.cs.length vc) (A : Int) (B : Int) w hs
    have c3 := fun w hs => wrong_fin h (.slice (some ⟨cb, co, none⟩) h.cs.length cap) w hs
    have c4 := fun w hs => wrong_fin (turnH h T) (.slice va h.cs.length vc) w hs
    have c5 := fun w hs => lists_any h (.slice (some ⟨cb, co, none⟩) h.cs.length cap) w hs
    have c6 := fun w hs => lists_any (turnH h T) (.slice va h.cs.length vc) w hs
    have c7 := fun w hs => kind_fin h (.slice (some ⟨cb, co, none⟩) h.cs.length cap) (K : Int) w hs
    have c8 := fun w hs => kind_fin (turnH h T) (.slice va h.cs.length vc) (Q : Int) w hs
    unfold RetWrong at c3 c4
    rw [HC.out] at c3 c5
    rw [chk_of_valid VT] at c4 c6
    have hls : listsN (turnH h T) = listsN h := by unfold listsN; rw [chk_of_valid VT, HC.out, turn_lists V.out hTn']
    rw [hls] at c6
    rw [ke1] at c7
    rw [ke2, ke3] at c8
    have hlm := turn_wrong V.out hTn'
    obtain ⟨l, hl⟩ : ∃ l, l = wrongL h := ⟨_, rfl⟩
    obtain ⟨m, hm⟩ : ∃ l, l = wrongL (turnH h T) := ⟨_, rfl⟩
    obtain ⟨nn, hnn⟩ : ∃ l, l = listsN h := ⟨_, rfl⟩
    obtain ⟨kn, hkn⟩ : ∃ l, l = kindN h K := ⟨_, rfl⟩
    rw [← hl] at c3 hlm
    rw [← hm] at c4 hlm
    rw [← hnn] at c5 c6
    rw [← hkn] at c7 c8
    have C3 := Lib.hid c3
    have C4 := Lib.hid c4
    have C5 := Lib.hid c5
    have C6 := Lib.hid c6
    have C7 := Lib.hid c7
    have C8 := Lib.hid c8
    have HLM := Lib.hid hlm
    clear c3 c4 c5 c6 c7 c8 hl hm hnn hkn hlm hls ke1 ke2 ke3
    have hta := turn_agr V.out T
    cases hag : (leastM h 0).2
    · obtain ⟨q1, q2, q3⟩ := span_not V.out hag (a := A) (b := B) (by omega) (by omega)
      rw [q1, q2, q3] at d1
      obtain ⟨q4, q5, q6⟩ := span_not VT (hta.trans hag) (a := A) (b := B) (by omega) (by show (B : Int) < h.n; omega)
      rw [q4, q5, q6] at d2
      have D1 := Lib.hid d1
      have D2 := Lib.hid d2
      clear d1 d2 q1 q2 q3 q4 q5 q6 hta hag VT

      go_wp2_with fail
      refine callW (W0 := Z0) (g := ⟨Z0, Below.refl _ _⟩) (by exact (by repeat (first | exact Below.refl _ _ | refine Ext.al ?_ _ | refine Ext.dr ?_ | refine Ext.drN ?_ _ | refine Ext.gr ?_ _ | refine Ext.set ?_ (by simp) _ | (refine Ext.trans' ?_ (by assumption))))) (D1.out _ (HS.out.ext (by exact (by repeat (first | exact Below.refl _ _ | refine Ext.al ?_ _ | refine Ext.dr ?_ | refine Ext.drN ?_ _ | refine Ext.gr ?_ _ | refine Ext.set ?_ (by simp) _ | (refine Ext.trans' ?_ (by assumption))))))) fun g4 hgr => ?_
      clear hgr
      go_upto_region 10 with (fail)
      obtain ⟨Z1, hZ1⟩ : ∃ zz9, zz9 = (grow Z0 g4).alloc (.cells #[.int .i64 0, .int .i64 0] 35) := ⟨_, rfl⟩
      have s0 : Z1.cell? ⟨(grow Z0 g4).heap.size, 0, none⟩ = some (.int .i64 0) := by rw [hZ1]; simp [go_sem]
      have s1 : Z1.cell? ⟨(grow Z0 g4).heap.size, 1, none⟩ = some (.int .i64 0) := by rw [hZ1]; simp [go_sem]
      have eZ1 : Ext Z0 Z1 := by rw [hZ1]; exact (by repeat (first | exact Below.refl _ _ | refine Ext.al ?_ _ | refine Ext.dr ?_ | refine Ext.drN ?_ _ | refine Ext.gr ?_ _ | refine Ext.set ?_ (by simp) _ | (refine Ext.trans' ?_ (by assumption))))
      replace k0 := cell_ext eZ1 k0
      replace k1 := cell_ext eZ1 k1
      replace k2 := cell_ext eZ1 k2
      replace x0 := cell_ext eZ1 x0
      replace x1 := cell_ext eZ1 x1
      replace x2 := cell_ext eZ1 x2
      replace HS := Lib.hid (HS.out.ext eZ1)
      replace HX := Lib.hid (HX.out.ext eZ1)
      replace HW := Lib.hid (HW.out.trans' eZ1)
      rw [← hZ1]
      obtain ⟨bS, hbS⟩ : ∃ b, b = (grow Z0 g4).heap.size := ⟨_, rfl⟩
      rw [← hbS] at s0 s1 ⊢
      replace hz := World.block_lt_of_cell? _ _ k0
      replace zx := World.block_lt_of_cell? _ _ x0
      have zbS := World.block_lt_of_cell? _ _ s0
      simp only at zbS
      clear hZ1 eZ1 hbS
      go_wp2_with fail
      refine callW (W0 := Z1) (g := ⟨Z1, Below.refl _ _⟩) (by exact (by repeat (first | exact Below.refl _ _ | refine Ext.al ?_ _ | refine Ext.dr ?_ | refine Ext.drN ?_ _ | refine Ext.gr ?_ _ | refine Ext.set ?_ (by simp) _ | (refine Ext.trans' ?_ (by assumption))))) (D2.out _ (HX.out.ext (by exact (by repeat (first | exact Below.refl _ _ | refine Ext.al ?_ _ | refine Ext.dr ?_ | refine Ext.drN ?_ _ | refine Ext.gr ?_ _ | refine Ext.set ?_ (by simp) _ | (refine Ext.trans' ?_ (by assumption))))))) fun g5 hgr => ?_
      clear hgr
      go_upto_region 11 with (fail)
      obtain ⟨Z2, hZ2⟩ : ∃ zz9, zz9 = (grow Z1 g5).alloc (.cells #[.int .i64 0, .int .i64 0] 35) := ⟨_, rfl⟩
      have r0 : Z2.cell? ⟨(grow Z1 g5).heap.size, 0, none⟩ = some (.int .i64 0) := by rw [hZ2]; simp [go_sem]
      have r1 : Z2.cell? ⟨(grow Z1 g5).heap.size, 1, none⟩ = some (.int .i64 0) := by rw [hZ2]; simp [go_sem]
      have eZ2 : Ext Z1 Z2 := by rw [hZ2]; exact (by repeat (first | exact Below.refl _ _ | refine Ext.al ?_ _ | refine Ext.dr ?_ | refine Ext.drN ?_ _ | refine Ext.gr ?_ _ | refine Ext.set ?_ (by simp) _ | (refine Ext.trans' ?_ (by assumption))))
      replace k0 := cell_ext eZ2 k0
      replace k1 := cell_ext eZ2 k1
      replace k2 := cell_ext eZ2 k2
      replace x0 := cell_ext eZ2 x0
      replace x1 := cell_ext eZ2 x1
      replace x2 := cell_ext eZ2 x2
      replace s0 := cell_ext eZ2 s0
      replace s1 := cell_ext eZ2 s1
      replace HS := Lib.hid (HS.out.ext eZ2)
      replace HX := Lib.hid (HX.out.ext eZ2)
      replace HW := Lib.hid (HW.out.trans' eZ2)
      rw [← hZ2]
      obtain ⟨bR, hbR⟩ : ∃ b, b = (grow Z1 g5).heap.size := ⟨_, rfl⟩
      rw [← hbR] at r0 r1 ⊢
      replace hz := World.block_lt_of_cell? _ _ k0
      replace zx := World.block_lt_of_cell? _ _ x0
      replace zbS := World.block_lt_of_cell? _ _ s0
      have zbR := World.block_lt_of_cell? _ _ r0
      simp only at zbR
      clear hZ2 eZ2 hbR
      go_wp2_with fail
      refine callWR (W0 := Z2) (g := ⟨Z2, Below.refl _ _⟩) (by exact (by repeat (first | exact Below.refl _ _ | refine Ext.al ?_ _ | refine Ext.dr ?_ | refine Ext.drN ?_ _ | refine Ext.gr ?_ _ | refine Ext.set ?_ (by simp) _ | (refine Ext.trans' ?_ (by assumption))))) (C3.out _ (HS.out.ext (by exact (by repeat (first | exact Below.refl _ _ | refine Ext.al ?_ _ | refine Ext.dr ?_ | refine Ext.drN ?_ _ | refine Ext.gr ?_ _ | refine Ext.set ?_ (by simp) _ | (refine Ext.trans' ?_ (by assumption))))))) (fun _ _ ⟨_, _, r, _⟩ => r) fun _ g6 hgr hr => ?_
      obtain ⟨lv, rfl, -, hlv⟩ := hr
      clear hgr
      obtain ⟨la, lcap, rfl, -⟩ := hlv.spec
      clear hlv
      go_wp2_with fail
      refine callWR (W0 := Z2) (g := g6) (by exact (by repeat (first | exact Below.refl _ _ | refine Ext.al ?_ _ | refine Ext.dr ?_ | refine Ext.drN ?_ _ | refine Ext.gr ?_ _ | refine Ext.set ?_ (by simp) _ | (refine Ext.trans' ?_ (by assumption))))) (C4.out _ (HX.out.ext (by exact (by repeat (first | exact Below.refl _ _ | refine Ext.al ?_ _ | refine Ext.dr ?_ | refine Ext.drN ?_ _ | refine Ext.gr ?_ _ | refine Ext.set ?_ (by simp) _ | (refine Ext.trans' ?_ (by assumption))))))) (fun _ _ ⟨_, _, r, _⟩ => r) fun _ g7 hgr hr => ?_
      obtain ⟨mv, rfl, -, hmv⟩ := hr
      clear hgr
      obtain ⟨ma, mcap, rfl, -⟩ := hmv.spec
      clear hmv
      rw [HLM.out]
      go_wp2_with fail
      refine callW (W0 := Z2) (g := g7) (by exact (by repeat (first | exact Below.refl _ _ | refine Ext.al ?_ _ | refine Ext.dr ?_ | refine Ext.drN ?_ _ | refine Ext.gr ?_ _ | refine Ext.set ?_ (by simp) _ | (refine Ext.trans' ?_ (by assumption))))) (C5.out _ (HS.out.ext (by exact (by repeat (first | exact Below.refl _ _ | refine Ext.al ?_ _ | refine Ext.dr ?_ | refine Ext.drN ?_ _ | refine Ext.gr ?_ _ | refine Ext.set ?_ (by simp) _ | (refine Ext.trans' ?_ (by assumption))))))) fun g8 hgr => ?_
      clear hgr
      go_wp2_with fail
      refine callW (W0 := Z2) (g := g8) (by exact (by repeat (first | exact Below.refl _ _ | refine Ext.al ?_ _ | refine Ext.dr ?_ | refine Ext.drN ?_ _ | refine Ext.gr ?_ _ | refine Ext.set ?_ (by simp) _ | (refine Ext.trans' ?_ (by assumption))))) (C6.out _ (HX.out.ext (by exact (by repeat (first | exact Below.refl _ _ | refine Ext.al ?_ _ | refine Ext.dr ?_ | refine Ext.drN ?_ _ | refine Ext.gr ?_ _ | refine Ext.set ?_ (by simp) _ | (refine Ext.trans' ?_ (by assumption))))))) fun g9 hgr => ?_
      clear hgr
      go_wp2_with fail
      refine callW (W0 := Z2) (g := g9) (by exact (by repeat (first | exact Below.refl _ _ | refine Ext.al ?_ _ | refine Ext.dr ?_ | refine Ext.drN ?_ _ | refine Ext.gr ?_ _ | refine Ext.set ?_ (by simp) _ | (refine Ext.trans' ?_ (by assumption))))) (C7.out _ (HS.out.ext (by exact (by repeat (first | exact Below.refl _ _ | refine Ext.al ?_ _ | refine Ext.dr ?_ | refine Ext.drN ?_ _ | refine Ext.gr ?_ _ | refine Ext.set ?_ (by simp) _ | (refine Ext.trans' ?_ (by assumption))))))) fun g10 hgr => ?_
      clear hgr
      go_upto_region 18 with (fail)
      obtain ⟨Z3, hZ3⟩ : ∃ zz9, zz9 = (grow Z2 g10) := ⟨_, rfl⟩
      have eZ3 : Ext Z2 Z3 := by rw [hZ3]; exact (by repeat (first | exact Below.refl _ _ | refine Ext.al ?_ _ | refine Ext.dr ?_ | refine Ext.drN ?_ _ | refine Ext.gr ?_ _ | refine Ext.set ?_ (by simp) _ | (refine Ext.trans' ?_ (by assumption))))
      replace k0 := cell_ext eZ3 k0
      replace k1 := cell_ext eZ3 k1
      replace k2 := cell_ext eZ3 k2
      replace x0 := cell_ext eZ3 x0
      replace x1 := cell_ext eZ3 x1
      replace x2 := cell_ext eZ3 x2
      replace s0 := cell_ext eZ3 s0
      replace s1 := cell_ext eZ3 s1
      replace r0 := cell_ext eZ3 r0
      replace r1 := cell_ext eZ3 r1
      replace HS := Lib.hid (HS.out.ext eZ3)
      replace HX := Lib.hid (HX.out.ext eZ3)
      replace HW := Lib.hid (HW.out.trans' eZ3)
      rw [← hZ3]
      replace hz := World.block_lt_of_cell? _ _ k0
      replace zx := World.block_lt_of_cell? _ _ x0
      replace zbS := World.block_lt_of_cell? _ _ s0
      replace zbR := World.block_lt_of_cell? _ _ r0
      clear hZ3 eZ3
      have hw1 : IntKind.i64.wrap ((K : Int) + (h.cs.length : Int)) = (K : Int) + (h.cs.length : Int) := IntWalk.i64_in _ (by omega)
      have hw2 : IntKind.i64.wrap ((K : Int) + (h.cs.length : Int) - (T : Int)) = (K : Int) + (h.cs.length : Int) - (T : Int) := IntWalk.i64_in _ (by omega)
      have hq3 : ((K : Int) + (h.cs.length : Int) - (T : Int)).tmod (h.cs.length : Int) = (Q : Int) := HQ.out
      have hnz : ¬ h.cs = [] := fun e => by rw [e] at hKn; simp at hKn; omega
      refine wp_region_rove (Z3.heap.size) (Nat.le_refl _)
        [sqV (.agg #[.int .i64 h.n, .int .i64 h.most, .slice va h.cs.length vc]),
         sqV (.int .i64 K),
         sqV (.int .i64 h.cs.length),
         sqV (.int .i64 ((K : Int) + (h.cs.length : Int))),
         sqV (.int .i64 T),
         sqV (.int .i64 ((K : Int) + (h.cs.length : Int) - (T : Int))),
         sqV (.int .i64 h.cs.length),
         sqV (.int .i64 Q),
         sqV (.tuple #[.int .i64 kn, .int .i64 0]),
         sqV (.tuple #[.int .i64 kn, .int .i64 0]),
         sqV (.int .i64 kn),
         sqV (.int .i64 0),
         sqV (.int .i64 kn),
         sqV (.int .i64 0)]
        [true, true, true, true, true, true, true, true, true, true, true, true, true, true] [false, false, false, false, false, false, false, false, false, false, false, false, false, false] [true, true, true, true, true, true, true, true, true, true, true, true, true, true] [true, true, true, true, true, true, true, true, true, true, true, true, true, true]
        (by kernel_rfl) (by kernel_rfl) (by decide +kernel) (by decide +kernel) (by decide +kernel) rfl rfl ⟨?s0, ?s1, ?s2, ?s3, ?s4, ?s5, ?s6, ?s7, ?s8, ?s9, ?s10, ?s11, ?s12, ?s13, trivial⟩ [some 153, some 154, some 155, some 156, some 157, some 158, some 159, some 160, some 161, some 152, some 162, some 163, some 28, some 24] rfl rfl ?send
      case s0 =>
        intro val ρ W hE hz hd hA hx
        have o0 : ρ (.tmp 14) = .pointer (some ⟨W1.heap.size, 0, none⟩) := hA.old 14 (by decide)
        have f_x0 := cell_below hE (by simp only; omega) x0
        have f_x1 := cell_below hE (by simp only; omega) x1
        have f_x2 := cell_below hE (by simp only; omega) x2
        clear hd
        exact runq_val (W' := W) (by simp [execOp, o0, f_x0, f_x1, f_x2, go_sem]) (Below.refl _ _) rfl
      case s1 =>
        intro val ρ W hE hz hd hA hx
        have o0 : ρ (.tmp 13) = .int .i64 K := hA.old 13 (by decide)
        clear hd
        exact runq_val (W' := W) (by simp [execOp, o0, go_sem]) (Below.refl _ _) rfl
      case s2 =>
        intro val ρ W hE hz hd hA hx
        have o0 : ρ (.tmp 11) = .int .i64 h.cs.length := hA.old 11 (by decide)
        clear hd
        exact runq_val (W' := W) (by simp [execOp, o0, go_sem]) (Below.refl _ _) rfl
      case s3 =>
        intro val ρ W hE hz hd hA hx
        have d1 : ρ (.tmp 154) = .int .i64 K := (hA.dep 1 (by decide) 154 rfl).trans (hd 1 (by decide))
        have d2 : ρ (.tmp 155) = .int .i64 h.cs.length := (hA.dep 2 (by decide) 155 rfl).trans (hd 2 (by decide))
        clear hd
        exact runq_val (W' := W) (by simp [execOp, d1, d2, hw1, go_sem]) (Below.refl _ _) rfl
      case s4 =>
        intro val ρ W hE hz hd hA hx
        have o0 : ρ (.tmp 12) = .int .i64 T := hA.old 12 (by decide)
        clear hd
        exact runq_val (W' := W) (by simp [execOp, o0, go_sem]) (Below.refl _ _) rfl
      case s5 =>
        intro val ρ W hE hz hd hA hx
        have d3 : ρ (.tmp 156) = .int .i64 ((K : Int) + (h.cs.length : Int)) := (hA.dep 3 (by decide) 156 rfl).trans (hd 3 (by decide))
        have d4 : ρ (.tmp 157) = .int .i64 T := (hA.dep 4 (by decide) 157 rfl).trans (hd 4 (by decide))
        clear hd
        exact runq_val (W' := W) (by simp [execOp, d3, d4, hw2, go_sem]) (Below.refl _ _) rfl
      case s6 =>
        intro val ρ W hE hz hd hA hx
        have o0 : ρ (.tmp 11) = .int .i64 h.cs.length := hA.old 11 (by decide)
        clear hd
        exact runq_val (W' := W) (by simp [execOp, o0, go_sem]) (Below.refl _ _) rfl
      case s7 =>
        intro val ρ W hE hz hd hA hx
        have d5 : ρ (.tmp 158) = .int .i64 ((K : Int) + (h.cs.length : Int) - (T : Int)) := (hA.dep 5 (by decide) 158 rfl).trans (hd 5 (by decide))
        have d6 : ρ (.tmp 159) = .int .i64 h.cs.length := (hA.dep 6 (by decide) 159 rfl).trans (hd 6 (by decide))
        clear hd
        exact runq_val (W' := W) (by simp [execOp, d5, d6, hq3, hnz, go_sem]) (Below.refl _ _) rfl
      case s8 =>
        intro val ρ W hE hz hd hA hx
        have d0 : ρ (.tmp 153) = .agg #[.int .i64 h.n, .int .i64 h.most, .slice va h.cs.length vc] := (hA.dep 0 (by decide) 153 rfl).trans (hd 0 (by decide))
        have d7 : ρ (.tmp 160) = .int .i64 Q := (hA.dep 7 (by decide) 160 rfl).trans (hd 7 (by decide))
        clear hd
        refine runq_call 43 _ _ rfl #[.agg #[.int .i64 h.n, .int .i64 h.most, .slice va h.cs.length vc], .int .i64 Q] (hA.func _) (by simp [d0, d7]) (fun args W => Try.call43 args W) ((C8.out W (HX.out.ext hE)).mono ?_)
        rintro e w' ⟨rfl, hb⟩
        exact ⟨_, rfl, hb, rfl⟩
      case s9 =>
        intro val ρ W hE hz hd hA hx
        have d8 : ρ (.tmp 161) = .tuple #[.int .i64 kn, .int .i64 0] := (hA.dep 8 (by decide) 161 rfl).trans (hd 8 (by decide))
        clear hd
        exact runq_val (W' := W) (by simp [execOp, d8, go_sem]) (Below.refl _ _) rfl
      case s10 =>
        intro val ρ W hE hz hd hA hx
        have d9 : ρ (.tmp 152) = .tuple #[.int .i64 kn, .int .i64 0] := (hA.dep 9 (by decide) 152 rfl).trans (hd 9 (by decide))
        clear hd
        exact runq_val (W' := W) (by simp [execOp, d9, go_sem]) (Below.refl _ _) rfl
      case s11 =>
        intro val ρ W hE hz hd hA hx
        have d9 : ρ (.tmp 152) = .tuple #[.int .i64 kn, .int .i64 0] := (hA.dep 9 (by decide) 152 rfl).trans (hd 9 (by decide))
        clear hd
        exact runq_val (W' := W) (by simp [execOp, d9, go_sem]) (Below.refl _ _) rfl
      case s12 =>
        intro val ρ W hE hz hd hA hx
        have d10 : ρ (.tmp 162) = .int .i64 kn := (hA.dep 10 (by decide) 162 rfl).trans (hd 10 (by decide))
        clear hd
        exact runq_val (W' := W) (by simp [execOp, d10, go_sem]) (Below.refl _ _) rfl
      case s13 =>
        intro val ρ W hE hz hd hA hx
        have d11 : ρ (.tmp 163) = .int .i64 0 := (hA.dep 11 (by decide) 163 rfl).trans (hd 11 (by decide))
        clear hd
        exact runq_val (W' := W) (by simp [execOp, d11, go_sem]) (Below.refl _ _) rfl
      case send =>
        intro val WW hE hzz hv
        obtain ⟨r0, r1, r2, r3, r4, r5, r6, r7, r8, r9, r10, r11, r12, r13, -⟩ := hv
        have q0 : val 0 = .agg #[.int .i64 h.n, .int .i64 h.most, .slice va h.cs.length vc] := r0
        have q1 : val 1 = .int .i64 K := r1
        have q2 : val 2 = .int .i64 h.cs.length := r2
        have q3 : val 3 = .int .i64 ((K : Int) + (h.cs.length : Int)) := r3
        have q4 : val 4 = .int .i64 T := r4
        have q5 : val 5 = .int .i64 ((K : Int) + (h.cs.length : Int) - (T : Int)) := r5
        have q6 : val 6 = .int .i64 h.cs.length := r6
        have q7 : val 7 = .int .i64 Q := r7
        have q8 : val 8 = .tuple #[.int .i64 kn, .int .i64 0] := r8
        have q9 : val 9 = .tuple #[.int .i64 kn, .int .i64 0] := r9
        have q10 : val 10 = .int .i64 kn := r10
        have q11 : val 11 = .int .i64 0 := r11
        have q12 : val 12 = .int .i64 kn := r12
        have q13 : val 13 = .int .i64 0 := r13
        clear r0 r1 r2 r3 r4 r5 r6 r7 r8 r9 r10 r11 r12 r13
        obtain ⟨g99, rfl⟩ := grow_of hE
        clear hE hzz
        simp only [putD, q0, q1, q2, q3, q4, q5, q6, q7, q8, q9, q10, q11, q12, q13]
        go_frame
        clear q0 q1 q2 q3 q4 q5 q6 q7 q8 q9 q10 q11 q12 q13

        clear hw1 hw2 hq3 hnz
        go_wp2_with fail
        refine callW (W0 := Z3) (g := g99) (by exact (by repeat (first | exact Below.refl _ _ | refine Ext.al ?_ _ | refine Ext.dr ?_ | refine Ext.drN ?_ _ | refine Ext.gr ?_ _ | refine Ext.set ?_ (by simp) _ | (refine Ext.trans' ?_ (by assumption))))) (works_any _) fun g11 hgr => ?_
        clear hgr
        go_wp2_with fail
        go_ret
        exact ⟨rfl, HW.out.trans' (grow_below Z3 g11)⟩

    · have g := (agr_iff V.out).1 hag
      have q1 := spanE_agr V.out (a := A) (b := B) (by omega) (by omega)
      rw [hag] at q1
      replace q1 : spanE h A B = 0 := q1
      rw [q1, spanLo_agr V.out hag (by omega) (by omega), spanHi_agr V.out hag (by omega) (by omega)] at d1
      have q2 := spanE_agr VT (a := A) (b := B) (by omega) (by show (B : Int) < h.n; omega)
      rw [hta.trans hag] at q2
      replace q2 : spanE (turnH h T) A B = 0 := q2
      rw [q2, spanLo_agr VT (hta.trans hag) (by omega) (by show (B : Int) < h.n; omega), spanHi_agr VT (hta.trans hag) (by omega) (by show (B : Int) < h.n; omega), turn_ds V.out g T (by omega) (by omega), turn_ds V.out g T (by omega) (by omega)] at d2
      obtain ⟨lo, hlo⟩ : ∃ lo, lo = -ds h (B + 1) A := ⟨_, rfl⟩
      obtain ⟨hi, hhi⟩ : ∃ hi, hi = ds h A (B + 1) := ⟨_, rfl⟩
      rw [← hlo, ← hhi] at d1 d2
      have D1 := Lib.hid d1
      have D2 := Lib.hid d2
      clear d1 d2 q1 q2 hta hag VT hlo hhi g

      go_wp2_with fail
      refine callW (W0 := Z0) (g := ⟨Z0, Below.refl _ _⟩) (by exact (by repeat (first | exact Below.refl _ _ | refine Ext.al ?_ _ | refine Ext.dr ?_ | refine Ext.drN ?_ _ | refine Ext.gr ?_ _ | refine Ext.set ?_ (by simp) _ | (refine Ext.trans' ?_ (by assumption))))) (D1.out _ (HS.out.ext (by exact (by repeat (first | exact Below.refl _ _ | refine Ext.al ?_ _ | refine Ext.dr ?_ | refine Ext.drN ?_ _ | refine Ext.gr ?_ _ | refine Ext.set ?_ (by simp) _ | (refine Ext.trans' ?_ (by assumption))))))) fun g12 hgr => ?_
      clear hgr
      go_upto_region 10 with (fail)
      obtain ⟨Z1, hZ1⟩ : ∃ zz9, zz9 = (grow Z0 g12).alloc (.cells #[.int .i64 lo, .int .i64 hi] 35) := ⟨_, rfl⟩
      have s0 : Z1.cell? ⟨(grow Z0 g12).heap.size, 0, none⟩ = some (.int .i64 lo) := by rw [hZ1]; simp [go_sem]
      have s1 : Z1.cell? ⟨(grow Z0 g12).heap.size, 1, none⟩ = some (.int .i64 hi) := by rw [hZ1]; simp [go_sem]
      have eZ1 : Ext Z0 Z1 := by rw [hZ1]; exact (by repeat (first | exact Below.refl _ _ | refine Ext.al ?_ _ | refine Ext.dr ?_ | refine Ext.drN ?_ _ | refine Ext.gr ?_ _ | refine Ext.set ?_ (by simp) _ | (refine Ext.trans' ?_ (by assumption))))
      replace k0 := cell_ext eZ1 k0
      replace k1 := cell_ext eZ1 k1
      replace k2 := cell_ext eZ1 k2
      replace x0 := cell_ext eZ1 x0
      replace x1 := cell_ext eZ1 x1
      replace x2 := cell_ext eZ1 x2
      replace HS := Lib.hid (HS.out.ext eZ1)
      replace HX := Lib.hid (HX.out.ext eZ1)
      replace HW := Lib.hid (HW.out.trans' eZ1)
      rw [← hZ1]
      obtain ⟨bS, hbS⟩ : ∃ b, b = (grow Z0 g12).heap.size := ⟨_, rfl⟩
      rw [← hbS] at s0 s1 ⊢
      replace hz := World.block_lt_of_cell? _ _ k0
      replace zx := World.block_lt_of_cell? _ _ x0
      have zbS := World.block_lt_of_cell? _ _ s0
      simp only at zbS
      clear hZ1 eZ1 hbS
      go_wp2_with fail
      refine callW (W0 := Z1) (g := ⟨Z1, Below.refl _ _⟩) (by exact (by repeat (first | exact Below.refl _ _ | refine Ext.al ?_ _ | refine Ext.dr ?_ | refine Ext.drN ?_ _ | refine Ext.gr ?_ _ | refine Ext.set ?_ (by simp) _ | (refine Ext.trans' ?_ (by assumption))))) (D2.out _ (HX.out.ext (by exact (by repeat (first | exact Below.refl _ _ | refine Ext.al ?_ _ | refine Ext.dr ?_ | refine Ext.drN ?_ _ | refine Ext.gr ?_ _ | refine Ext.set ?_ (by simp) _ | (refine Ext.trans' ?_ (by assumption))))))) fun g13 hgr => ?_
      clear hgr
      go_upto_region 11 with (fail)
      obtain ⟨Z2, hZ2⟩ : ∃ zz9, zz9 = (grow Z1 g13).alloc (.cells #[.int .i64 lo, .int .i64 hi] 35) := ⟨_, rfl⟩
      have r0 : Z2.cell? ⟨(grow Z1 g13).heap.size, 0, none⟩ = some (.int .i64 lo) := by rw [hZ2]; simp [go_sem]
      have r1 : Z2.cell? ⟨(grow Z1 g13).heap.size, 1, none⟩ = some (.int .i64 hi) := by rw [hZ2]; simp [go_sem]
      have eZ2 : Ext Z1 Z2 := by rw [hZ2]; exact (by repeat (first | exact Below.refl _ _ | refine Ext.al ?_ _ | refine Ext.dr ?_ | refine Ext.drN ?_ _ | refine Ext.gr ?_ _ | refine Ext.set ?_ (by simp) _ | (refine Ext.trans' ?_ (by assumption))))
      replace k0 := cell_ext eZ2 k0
      replace k1 := cell_ext eZ2 k1
      replace k2 := cell_ext eZ2 k2
      replace x0 := cell_ext eZ2 x0
      replace x1 := cell_ext eZ2 x1
      replace x2 := cell_ext eZ2 x2
      replace s0 := cell_ext eZ2 s0
      replace s1 := cell_ext eZ2 s1
      replace HS := Lib.hid (HS.out.ext eZ2)
      replace HX := Lib.hid (HX.out.ext eZ2)
      replace HW := Lib.hid (HW.out.trans' eZ2)
      rw [← hZ2]
      obtain ⟨bR, hbR⟩ : ∃ b, b = (grow Z1 g13).heap.size := ⟨_, rfl⟩
      rw [← hbR] at r0 r1 ⊢
      replace hz := World.block_lt_of_cell? _ _ k0
      replace zx := World.block_lt_of_cell? _ _ x0
      replace zbS := World.block_lt_of_cell? _ _ s0
      have zbR := World.block_lt_of_cell? _ _ r0
      simp only at zbR
      clear hZ2 eZ2 hbR
      go_wp2_with fail
      refine callWR (W0 := Z2) (g := ⟨Z2, Below.refl _ _⟩) (by exact (by repeat (first | exact Below.refl _ _ | refine Ext.al ?_ _ | refine Ext.dr ?_ | refine Ext.drN ?_ _ | refine Ext.gr ?_ _ | refine Ext.set ?_ (by simp) _ | (refine Ext.trans' ?_ (by assumption))))) (C3.out _ (HS.out.ext (by exact (by repeat (first | exact Below.refl _ _ | refine Ext.al ?_ _ | refine Ext.dr ?_ | refine Ext.drN ?_ _ | refine Ext.gr ?_ _ | refine Ext.set ?_ (by simp) _ | (refine Ext.trans' ?_ (by assumption))))))) (fun _ _ ⟨_, _, r, _⟩ => r) fun _ g14 hgr hr => ?_
      obtain ⟨lv, rfl, -, hlv⟩ := hr
      clear hgr
      obtain ⟨la, lcap, rfl, -⟩ := hlv.spec
      clear hlv
      go_wp2_with fail
      refine callWR (W0 := Z2) (g := g14) (by exact (by repeat (first | exact Below.refl _ _ | refine Ext.al ?_ _ | refine Ext.dr ?_ | refine Ext.drN ?_ _ | refine Ext.gr ?_ _ | refine Ext.set ?_ (by simp) _ | (refine Ext.trans' ?_ (by assumption))))) (C4.out _ (HX.out.ext (by exact (by repeat (first | exact Below.refl _ _ | refine Ext.al ?_ _ | refine Ext.dr ?_ | refine Ext.drN ?_ _ | refine Ext.gr ?_ _ | refine Ext.set ?_ (by simp) _ | (refine Ext.trans' ?_ (by assumption))))))) (fun _ _ ⟨_, _, r, _⟩ => r) fun _ g15 hgr hr => ?_
      obtain ⟨mv, rfl, -, hmv⟩ := hr
      clear hgr
      obtain ⟨ma, mcap, rfl, -⟩ := hmv.spec
      clear hmv
      rw [HLM.out]
      go_wp2_with fail
      refine callW (W0 := Z2) (g := g15) (by exact (by repeat (first | exact Below.refl _ _ | refine Ext.al ?_ _ | refine Ext.dr ?_ | refine Ext.drN ?_ _ | refine Ext.gr ?_ _ | refine Ext.set ?_ (by simp) _ | (refine Ext.trans' ?_ (by assumption))))) (C5.out _ (HS.out.ext (by exact (by repeat (first | exact Below.refl _ _ | refine Ext.al ?_ _ | refine Ext.dr ?_ | refine Ext.drN ?_ _ | refine Ext.gr ?_ _ | refine Ext.set ?_ (by simp) _ | (refine Ext.trans' ?_ (by assumption))))))) fun g16 hgr => ?_
      clear hgr
      go_wp2_with fail
      refine callW (W0 := Z2) (g := g16) (by exact (by repeat (first | exact Below.refl _ _ | refine Ext.al ?_ _ | refine Ext.dr ?_ | refine Ext.drN ?_ _ | refine Ext.gr ?_ _ | refine Ext.set ?_ (by simp) _ | (refine Ext.trans' ?_ (by assumption))))) (C6.out _ (HX.out.ext (by exact (by repeat (first | exact Below.refl _ _ | refine Ext.al ?_ _ | refine Ext.dr ?_ | refine Ext.drN ?_ _ | refine Ext.gr ?_ _ | refine Ext.set ?_ (by simp) _ | (refine Ext.trans' ?_ (by assumption))))))) fun g17 hgr => ?_
      clear hgr
      go_wp2_with fail
      refine callW (W0 := Z2) (g := g17) (by exact (by repeat (first | exact Below.refl _ _ | refine Ext.al ?_ _ | refine Ext.dr ?_ | refine Ext.drN ?_ _ | refine Ext.gr ?_ _ | refine Ext.set ?_ (by simp) _ | (refine Ext.trans' ?_ (by assumption))))) (C7.out _ (HS.out.ext (by exact (by repeat (first | exact Below.refl _ _ | refine Ext.al ?_ _ | refine Ext.dr ?_ | refine Ext.drN ?_ _ | refine Ext.gr ?_ _ | refine Ext.set ?_ (by simp) _ | (refine Ext.trans' ?_ (by assumption))))))) fun g18 hgr => ?_
      clear hgr
      go_upto_region 18 with (fail)
      obtain ⟨Z3, hZ3⟩ : ∃ zz9, zz9 = (grow Z2 g18) := ⟨_, rfl⟩
      have eZ3 : Ext Z2 Z3 := by rw [hZ3]; exact (by repeat (first | exact Below.refl _ _ | refine Ext.al ?_ _ | refine Ext.dr ?_ | refine Ext.drN ?_ _ | refine Ext.gr ?_ _ | refine Ext.set ?_ (by simp) _ | (refine Ext.trans' ?_ (by assumption))))
      replace k0 := cell_ext eZ3 k0
      replace k1 := cell_ext eZ3 k1
      replace k2 := cell_ext eZ3 k2
      replace x0 := cell_ext eZ3 x0
      replace x1 := cell_ext eZ3 x1
      replace x2 := cell_ext eZ3 x2
      replace s0 := cell_ext eZ3 s0
      replace s1 := cell_ext eZ3 s1
      replace r0 := cell_ext eZ3 r0
      replace r1 := cell_ext eZ3 r1
      replace HS := Lib.hid (HS.out.ext eZ3)
      replace HX := Lib.hid (HX.out.ext eZ3)
      replace HW := Lib.hid (HW.out.trans' eZ3)
      rw [← hZ3]
      replace hz := World.block_lt_of_cell? _ _ k0
      replace zx := World.block_lt_of_cell? _ _ x0
      replace zbS := World.block_lt_of_cell? _ _ s0
      replace zbR := World.block_lt_of_cell? _ _ r0
      clear hZ3 eZ3
      have hw1 : IntKind.i64.wrap ((K : Int) + (h.cs.length : Int)) = (K : Int) + (h.cs.length : Int) := IntWalk.i64_in _ (by omega)
      have hw2 : IntKind.i64.wrap ((K : Int) + (h.cs.length : Int) - (T : Int)) = (K : Int) + (h.cs.length : Int) - (T : Int) := IntWalk.i64_in _ (by omega)
      have hq3 : ((K : Int) + (h.cs.length : Int) - (T : Int)).tmod (h.cs.length : Int) = (Q : Int) := HQ.out
      have hnz : ¬ h.cs = [] := fun e => by rw [e] at hKn; simp at hKn; omega
      refine wp_region_rove (Z3.heap.size) (Nat.le_refl _)
        [sqV (.agg #[.int .i64 h.n, .int .i64 h.most, .slice va h.cs.length vc]),
         sqV (.int .i64 K),
         sqV (.int .i64 h.cs.length),
         sqV (.int .i64 ((K : Int) + (h.cs.length : Int))),
         sqV (.int .i64 T),
         sqV (.int .i64 ((K : Int) + (h.cs.length : Int) - (T : Int))),
         sqV (.int .i64 h.cs.length),
         sqV (.int .i64 Q),
         sqV (.tuple #[.int .i64 kn, .int .i64 0]),
         sqV (.tuple #[.int .i64 kn, .int .i64 0]),
         sqV (.int .i64 kn),
         sqV (.int .i64 0),
         sqV (.int .i64 kn),
         sqV (.int .i64 0)]
        [true, true, true, true, true, true, true, true, true, true, true, true, true, true] [false, false, false, false, false, false, false, false, false, false, false, false, false, false] [true, true, true, true, true, true, true, true, true, true, true, true, true, true] [true, true, true, true, true, true, true, true, true, true, true, true, true, true]
        (by kernel_rfl) (by kernel_rfl) (by decide +kernel) (by decide +kernel) (by decide +kernel) rfl rfl ⟨?s0, ?s1, ?s2, ?s3, ?s4, ?s5, ?s6, ?s7, ?s8, ?s9, ?s10, ?s11, ?s12, ?s13, trivial⟩ [some 153, some 154, some 155, some 156, some 157, some 158, some 159, some 160, some 161, some 152, some 162, some 163, some 28, some 24] rfl rfl ?send
      case s0 =>
        intro val ρ W hE hz hd hA hx
        have o0 : ρ (.tmp 14) = .pointer (some ⟨W1.heap.size, 0, none⟩) := hA.old 14 (by decide)
        have f_x0 := cell_below hE (by simp only; omega) x0
        have f_x1 := cell_below hE (by simp only; omega) x1
        have f_x2 := cell_below hE (by simp only; omega) x2
        clear hd
        exact runq_val (W' := W) (by simp [execOp, o0, f_x0, f_x1, f_x2, go_sem]) (Below.refl _ _) rfl
      case s1 =>
        intro val ρ W hE hz hd hA hx
        have o0 : ρ (.tmp 13) = .int .i64 K := hA.old 13 (by decide)
        clear hd
        exact runq_val (W' := W) (by simp [execOp, o0, go_sem]) (Below.refl _ _) rfl
      case s2 =>
        intro val ρ W hE hz hd hA hx
        have o0 : ρ (.tmp 11) = .int .i64 h.cs.length := hA.old 11 (by decide)
        clear hd
        exact runq_val (W' := W) (by simp [execOp, o0, go_sem]) (Below.refl _ _) rfl
      case s3 =>
        intro val ρ W hE hz hd hA hx
        have d1 : ρ (.tmp 154) = .int .i64 K := (hA.dep 1 (by decide) 154 rfl).trans (hd 1 (by decide))
        have d2 : ρ (.tmp 155) = .int .i64 h.cs.length := (hA.dep 2 (by decide) 155 rfl).trans (hd 2 (by decide))
        clear hd
        exact runq_val (W' := W) (by simp [execOp, d1, d2, hw1, go_sem]) (Below.refl _ _) rfl
      case s4 =>
        intro val ρ W hE hz hd hA hx
        have o0 : ρ (.tmp 12) = .int .i64 T := hA.old 12 (by decide)
        clear hd
        exact runq_val (W' := W) (by simp [execOp, o0, go_sem]) (Below.refl _ _) rfl
      case s5 =>
        intro val ρ W hE hz hd hA hx
        have d3 : ρ (.tmp 156) = .int .i64 ((K : Int) + (h.cs.length : Int)) := (hA.dep 3 (by decide) 156 rfl).trans (hd 3 (by decide))
        have d4 : ρ (.tmp 157) = .int .i64 T := (hA.dep 4 (by decide) 157 rfl).trans (hd 4 (by decide))
        clear hd
        exact runq_val (W' := W) (by simp [execOp, d3, d4, hw2, go_sem]) (Below.refl _ _) rfl
      case s6 =>
        intro val ρ W hE hz hd hA hx
        have o0 : ρ (.tmp 11) = .int .i64 h.cs.length := hA.old 11 (by decide)
        clear hd
        exact runq_val (W' := W) (by simp [execOp, o0, go_sem]) (Below.refl _ _) rfl
      case s7 =>
        intro val ρ W hE hz hd hA hx
        have d5 : ρ (.tmp 158) = .int .i64 ((K : Int) + (h.cs.length : Int) - (T : Int)) := (hA.dep 5 (by decide) 158 rfl).trans (hd 5 (by decide))
        have d6 : ρ (.tmp 159) = .int .i64 h.cs.length := (hA.dep 6 (by decide) 159 rfl).trans (hd 6 (by decide))
        clear hd
        exact runq_val (W' := W) (by simp [execOp, d5, d6, hq3, hnz, go_sem]) (Below.refl _ _) rfl
      case s8 =>
        intro val ρ W hE hz hd hA hx
        have d0 : ρ (.tmp 153) = .agg #[.int .i64 h.n, .int .i64 h.most, .slice va h.cs.length vc] := (hA.dep 0 (by decide) 153 rfl).trans (hd 0 (by decide))
        have d7 : ρ (.tmp 160) = .int .i64 Q := (hA.dep 7 (by decide) 160 rfl).trans (hd 7 (by decide))
        clear hd
        refine runq_call 43 _ _ rfl #[.agg #[.int .i64 h.n, .int .i64 h.most, .slice va h.cs.length vc], .int .i64 Q] (hA.func _) (by simp [d0, d7]) (fun args W => Try.call43 args W) ((C8.out W (HX.out.ext hE)).mono ?_)
        rintro e w' ⟨rfl, hb⟩
        exact ⟨_, rfl, hb, rfl⟩
      case s9 =>
        intro val ρ W hE hz hd hA hx
        have d8 : ρ (.tmp 161) = .tuple #[.int .i64 kn, .int .i64 0] := (hA.dep 8 (by decide) 161 rfl).trans (hd 8 (by decide))
        clear hd
        exact runq_val (W' := W) (by simp [execOp, d8, go_sem]) (Below.refl _ _) rfl
      case s10 =>
        intro val ρ W hE hz hd hA hx
        have d9 : ρ (.tmp 152) = .tuple #[.int .i64 kn, .int .i64 0] := (hA.dep 9 (by decide) 152 rfl).trans (hd 9 (by decide))
        clear hd
        exact runq_val (W' := W) (by simp [execOp, d9, go_sem]) (Below.refl _ _) rfl
      case s11 =>
        intro val ρ W hE hz hd hA hx
        have d9 : ρ (.tmp 152) = .tuple #[.int .i64 kn, .int .i64 0] := (hA.dep 9 (by decide) 152 rfl).trans (hd 9 (by decide))
        clear hd
        exact runq_val (W' := W) (by simp [execOp, d9, go_sem]) (Below.refl _ _) rfl
      case s12 =>
        intro val ρ W hE hz hd hA hx
        have d10 : ρ (.tmp 162) = .int .i64 kn := (hA.dep 10 (by decide) 162 rfl).trans (hd 10 (by decide))
        clear hd
        exact runq_val (W' := W) (by simp [execOp, d10, go_sem]) (Below.refl _ _) rfl
      case s13 =>
        intro val ρ W hE hz hd hA hx
        have d11 : ρ (.tmp 163) = .int .i64 0 := (hA.dep 11 (by decide) 163 rfl).trans (hd 11 (by decide))
        clear hd
        exact runq_val (W' := W) (by simp [execOp, d11, go_sem]) (Below.refl _ _) rfl
      case send =>
        intro val WW hE hzz hv
        obtain ⟨r0, r1, r2, r3, r4, r5, r6, r7, r8, r9, r10, r11, r12, r13, -⟩ := hv
        have q0 : val 0 = .agg #[.int .i64 h.n, .int .i64 h.most, .slice va h.cs.length vc] := r0
        have q1 : val 1 = .int .i64 K := r1
        have q2 : val 2 = .int .i64 h.cs.length := r2
        have q3 : val 3 = .int .i64 ((K : Int) + (h.cs.length : Int)) := r3
        have q4 : val 4 = .int .i64 T := r4
        have q5 : val 5 = .int .i64 ((K : Int) + (h.cs.length : Int) - (T : Int)) := r5
        have q6 : val 6 = .int .i64 h.cs.length := r6
        have q7 : val 7 = .int .i64 Q := r7
        have q8 : val 8 = .tuple #[.int .i64 kn, .int .i64 0] := r8
        have q9 : val 9 = .tuple #[.int .i64 kn, .int .i64 0] := r9
        have q10 : val 10 = .int .i64 kn := r10
        have q11 : val 11 = .int .i64 0 := r11
        have q12 : val 12 = .int .i64 kn := r12
        have q13 : val 13 = .int .i64 0 := r13
        clear r0 r1 r2 r3 r4 r5 r6 r7 r8 r9 r10 r11 r12 r13
        obtain ⟨g99, rfl⟩ := grow_of hE
        clear hE hzz
        simp only [putD, q0, q1, q2, q3, q4, q5, q6, q7, q8, q9, q10, q11, q12, q13]
        go_frame
        clear q0 q1 q2 q3 q4 q5 q6 q7 q8 q9 q10 q11 q12 q13

        clear hw1 hw2 hq3 hnz
        go_wp2_with fail
        refine callW (W0 := Z3) (g := g99) (by exact (by repeat (first | exact Below.refl _ _ | refine Ext.al ?_ _ | refine Ext.dr ?_ | refine Ext.drN ?_ _ | refine Ext.gr ?_ _ | refine Ext.set ?_ (by simp) _ | (refine Ext.trans' ?_ (by assumption))))) (works_any _) fun g19 hgr => ?_
        clear hgr
        go_wp2_with fail
        go_ret
        exact ⟨rfl, HW.out.trans' (grow_below Z3 g19)⟩

open Go.ChangeShapes Go.WideShapes Go.ChangeAt in
set_option maxRecDepth 100000 in
theorem cutNamed_lifted (os : Os) (started : os.Started) (H : Type) (enc : TypeId × Value → H) :
    ReturnsInHanded {} Try.checked os 15 .any (Rows.cutNamedSpec.pre6 enc Try.prog Try.f15 Rows.cutNamedRow.domain false) (Rows.cutNamedSpec.post enc Try.prog Try.f15 false true false false) := by
  refine returnsInHanded_of_change (C := Try.checked) own started (by kernel_rfl) Try.func15
    (ChangeSpec.witness6 (enc := enc) (C := Try.checked) false ⟨#[], #[.agg #[.int .i64 0, .int .i64 0, .slice none 0 0], .int .u8 0, .int .u8 0, .int .u8 0, .int .u8 0], []⟩ 8 (by kernel_rfl) (by kernel_rfl) (by kernel_rfl) (by kernel_rfl)) ?_
  intro W base args ds gs before hval0 hW hcnd _
  have hval : ∀ (j : Nat) t v, Try.f15.params[j]? = some t → args[j]? = some v → Value.okWide Try.prog W .any base t v := hval0
  have hW' := hW
  obtain ⟨p, q, hA0, hV, rfl, hfz, hnd⟩ := hW
  have hA : DataW.TrodAll enc Try.prog W 0 (fun _ => true) true Try.f15.params.toList args.toList ds p := hA0
  rw [Try.params15] at hA hval
  obtain ⟨v0, vs0, d0, ds0, p0, q0, hargs, rfl, rfl, h0, r0⟩ := trodAll_cons hA
  obtain ⟨v1, vs1, d1, ds1, p1, q1, rfl, rfl, rfl, h1, r1⟩ := trodAll_cons r0
  obtain ⟨v2, vs2, d2, ds2, p2, q2, rfl, rfl, rfl, h2, r2⟩ := trodAll_cons r1
  obtain ⟨v3, vs3, d3, ds3, p3, q3, rfl, rfl, rfl, h3, r3⟩ := trodAll_cons r2
  obtain ⟨v4, vs4, d4, ds4, p4, q4, rfl, rfl, rfl, h4, r4⟩ := trodAll_cons r3
  obtain ⟨rfl, rfl, rfl⟩ := trodAll_nil r4
  obtain rfl : args = #[v0, v1, v2, v3, v4] := by cases args; simp_all
  obtain ⟨hh, shh, rfl, hhh⟩ := openHall (hval 0 24 v0 rfl rfl) h0
  obtain ⟨a, rfl, rfl, rfl, wa⟩ := open_int Try.underlying5 (hval 1 5 v1 rfl rfl) h1
  obtain ⟨b, rfl, rfl, rfl, wb⟩ := open_int Try.underlying5 (hval 2 5 v2 rfl rfl) h2
  obtain ⟨c, rfl, rfl, rfl, wc⟩ := open_int Try.underlying5 (hval 3 5 v3 rfl rfl) h3
  obtain ⟨d, rfl, rfl, rfl, wd⟩ := open_int Try.underlying5 (hval 4 5 v4 rfl rfl) h4
  clear hA0 hval0
  refine (cutNamed_any hh shh a b c d W hhh wa wb wc wd).mono fun e W' ⟨he, hb⟩ => ?_
  subst he
  exact ⟨_, rfl, law_post laidOut (tb := 4) (hts_of (by kernel_rfl)) (by kernel_rfl) Try.underlying4 hW' rfl rfl hb⟩
theorem cutNamed_holds : Rows.CutNamedSaid :=
  OpenClaim.holds_of_wide 15 Try.f15 rfl rfl rfl rfl rfl rfl rfl ⟨rfl, rfl, rfl, rfl, rfl⟩ rfl rfl rfl rfl rfl (by kernel_rfl) Try.func15 (by kernel_rfl)
    (of_decide_eq_true (by kernel_rfl)) (by unfold Func.isWrapper; first | (rw [if_pos (by decide +kernel)]; kernel_rfl) | (rw [if_neg (by decide +kernel)]; exact ⟨rfl, rfl⟩))
    (fun os started H enc _ => cutNamed_lifted os started H enc)
end Go.Proofs.Ytgcldgchhdjnhaa
