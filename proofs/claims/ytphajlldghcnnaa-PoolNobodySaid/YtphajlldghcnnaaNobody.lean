/-
 The statement PoolNobody holds: a runner on whom nobody has bet is scratched, and all that is paid stays; for every valid book, a runner, and a finish by numbers. No condition.
-/
import Derived.Test.YtphajlldghcnnaaPzb
import Derived.Test.YtphajlldghcnnaaPn
import Derived.Test.YtphajlldghcnnaaPm
import Derived.Test.YtphajlldghcnnaaBalanced
import Derived.Test.YtphajlldghcnnaaRoveG
namespace Go.Proofs.Ytphajlldghcnnaa
open Go.RowKit Go.Shelf
set_option maxRecDepth 200000 in
set_option maxHeartbeats 8000000 in
theorem poolNobody_any (b : Bk) (ba sa : Option Addr) (bcap scap : Nat) (ru : Int) (nv : Value) (bs : List Int) (w : World) (hv : IsBook w b ba bcap sa scap) (hru : (Lit.int .u8 ru).wf = true) (hb : IsRows w 1 nv (bs.map fun n => [.int .u8 n])) (hw8 : ∀ x ∈ bs, (Lit.int .u8 x).wf = true) : Calls Try.prog 14 #[.agg #[.int .i64 b.kd, .int .i64 b.n, .slice ba b.bets.length bcap, .slice sa b.scr.length scap, .bool b.fav, .int .i64 b.car, .int .i64 b.duty, .int .i64 b.step], .int .u8 ru, nv] w fun e w' => e = .returned (.bool true) ∧ Ext w w' := by
 have hbI : IsInts w .u8 nv bs := hb
 obtain ⟨na, ncap, rfl, hn1, hn2, -⟩ := hbI.spec
 have HN := Lib.hid hbI
 have H8 := Lib.hid (u8l hw8)
 clear hb hbI hw8
 have HV := Lib.hid hv
 clear hv
 go_enter Try.func14, Try.ntmps14
 go_upto_region 1 with (fail)
 obtain ⟨W0, hW0⟩ : ∃ W0, W0 = w.alloc (.cells #[.int .i64 b.kd, .int .i64 b.n, .slice ba b.bets.length bcap, .slice sa b.scr.length scap, .bool b.fav, .int .i64 b.car, .int .i64 b.duty, .int .i64 b.step] 25) := ⟨_, rfl⟩
 have hE : Ext w W0 := by rw [hW0]; exact xx
 have k0 : W0.cell? ⟨w.heap.size, 0, none⟩ = some (.int .i64 b.kd) := by rw [hW0]; simp [go_sem]
 have k1 : W0.cell? ⟨w.heap.size, 1, none⟩ = some (.int .i64 b.n) := by rw [hW0]; simp [go_sem]
 have k2 : W0.cell? ⟨w.heap.size, 2, none⟩ = some (.slice ba b.bets.length bcap) := by rw [hW0]; simp [go_sem]
 have k3 : W0.cell? ⟨w.heap.size, 3, none⟩ = some (.slice sa b.scr.length scap) := by rw [hW0]; simp [go_sem]
 have k4 : W0.cell? ⟨w.heap.size, 4, none⟩ = some (.bool b.fav) := by rw [hW0]; simp [go_sem]
 have k5 : W0.cell? ⟨w.heap.size, 5, none⟩ = some (.int .i64 b.car) := by rw [hW0]; simp [go_sem]
 have k6 : W0.cell? ⟨w.heap.size, 6, none⟩ = some (.int .i64 b.duty) := by rw [hW0]; simp [go_sem]
 have k7 : W0.cell? ⟨w.heap.size, 7, none⟩ = some (.int .i64 b.step) := by rw [hW0]; simp [go_sem]
 have hz : w.heap.size < W0.heap.size := World.block_lt_of_cell? _ _ k0
 have HS := Lib.hid (HV.out.ext hE)
 have HW := Lib.hid hE
 rw [← hW0]
 clear hW0 HV
 have HNW := Lib.hid (HN.out.ext hE)
 clear hE HN




 go_wp2_with fail
 refine callW (W0 := W0) (g := ⟨W0, Below.refl _ _⟩) xx (fineL_any b ba sa bcap scap _ (HS.out.ext xx)) fun g1 hgr => ?_
 clear hgr
 cases hfi : fineB b
 ·skip

  go_wp2_with fail
  refine callW (W0 := W0) (g := g1) xx (worksL_any _) fun g2 hgr => ?_
  clear hgr
  go_wp2_with fail
  go_ret
  exact ⟨rfl, HW.out.trans' (grow_below W0 _)⟩

 have H0 := Lib.hid (fine_val hfi)
 have V := Lib.hid (bval_of (fine_val hfi))
 clear hfi
 by_cases hl : 20 < bs.length
 ·have hli : (20 : Int) < (bs.length : Int) := by omega
  have HL := Lib.hid hl
  clear hl

  go_wp2_with fail
  refine callW (W0 := W0) (g := g1) xx (worksL_any _) fun g3 hgr => ?_
  clear hgr
  go_wp2_with fail
  go_ret
  exact ⟨rfl, HW.out.trans' (grow_below W0 _)⟩

 have hli : ¬ ((20 : Int) < (bs.length : Int)) := by omega
 have HL := Lib.hid hl
 clear hl
 go_wp2_with fail
 refine callWR (W0 := W0) (g := g1) xx (runR_any b ba sa bcap scap _ (HS.out.ext xx) V.out) (fun _ _ ⟨_, _, r, _⟩ => r) fun _ g4 hgr hr => ?_
 obtain ⟨lv, rfl, -, hown⟩ := hr
 clear hgr
 have hl2 := runL_two V.out
 have hl8 := runL_le V.out
 obtain ⟨L, hL⟩ : ∃ L, L = runL b := ⟨_, rfl⟩
 rw [← hL] at hown hl2 hl8
 have HLL := Lib.hid hL
 obtain ⟨lb, lc, rfl, -, -, -, -⟩ := hown.cellsN (by omega)
 have HLI : Hid (IsInts _ .i64 (.slice (some ⟨lb, 0, none⟩) L.length lc) L) := Lib.hid hown.oneInts
 clear hown hL

 go_upto_region 4 with (fail)
 obtain ⟨U, hU⟩ : ∃ zz9, zz9 = (grow W0 g4) := ⟨_, rfl⟩
 have eU : Ext W0 U := by rw [hU]; exact xx
 have eUc : Ext (grow W0 g4) U := by rw [hU]; exact xx
 replace k0 := cell_ext eU k0
 replace k1 := cell_ext eU k1
 replace k2 := cell_ext eU k2
 replace k3 := cell_ext eU k3
 replace k4 := cell_ext eU k4
 replace k5 := cell_ext eU k5
 replace k6 := cell_ext eU k6
 replace k7 := cell_ext eU k7
 replace HS := Lib.hid (HS.out.ext eU)
 replace HNW := Lib.hid (HNW.out.ext eU)
 replace HLI := Lib.hid (HLI.out.ext eUc)
 replace HW := Lib.hid (HW.out.trans' eU)
 rw [← hU]
 replace hz := World.block_lt_of_cell? _ _ k0
 clear hU eU eUc
 simp only at hz
 have hwb := bounds_u8 hru
 obtain ⟨wn, rfl⟩ : ∃ wn : Nat, ru = (wn : Int) := ⟨ru.toNat, by omega⟩
 obtain ⟨i1, hi1⟩ : ∃ i1, i1 = wn % L.length := ⟨_, rfl⟩
 have hi1l : i1 < L.length := by rw [hi1]; exact Nat.mod_lt _ (by omega)
 have hi1i : (i1 : Int) < (L.length : Int) := by omega
 have hm1 : Int.tmod (wn : Int) (L.length : Int) = (i1 : Int) := by rw [Int.tmod_eq_emod_of_nonneg (by omega), hi1]; rfl
 have hm2 : (wn : Int) % (L.length : Int) = (i1 : Int) := by rw [hi1]; rfl
 have hw1 : IntKind.i64.wrap (wn : Int) = (wn : Int) := IntWalk.i64_in _ (by omega)
 have hw6 : IntKind.i64.wrap (i1 : Int) = (i1 : Int) := IntWalk.i64_in _ (by omega)
 have hnz : ¬ L = [] := fun h => by rw [h] at hl2; simp at hl2
 have hnz1 : ¬ L.length = 0 := by omega
 have hnz3 : ¬ (L.length : Int) = 0 := by omega
 obtain ⟨_, _, he1, hcl⟩ := ints_cell HLI.out hi1l
 cases he1
 obtain ⟨d1, hzl⟩ := hcl U (Below.refl _ _)
 rw [Nat.zero_add] at d1
 have hrm : gt L i1 ∈ runL b := by rw [← HLL.out, ← gt_get hi1l]; exact List.getElem_mem _
 obtain ⟨r, hr⟩ : ∃ r, r = gt L i1 := ⟨_, rfl⟩
 rw [← hr] at d1 hrm
 have HRM := Lib.hid hrm
 have HI1 := Lib.hid hi1
 clear hr hrm hi1 hcl
 go_upto_region 7 with (fail)
 clear hi1l hi1i hm1 hm2 hw1 hw6 hnz hnz1 hnz3 d1 hzl HI1
 obtain ⟨X, hX⟩ : ∃ X, X = U.alloc (.cells #[.int .i64 b.kd, .int .i64 b.n, .slice none 0 0, .slice sa b.scr.length scap, .bool b.fav, .int .i64 b.car, .int .i64 b.duty, .int .i64 b.step] 25) := ⟨_, rfl⟩
 obtain ⟨Q, hQ⟩ : ∃ Q, Q = U.heap.size := ⟨_, rfl⟩
 have hrX : RowB X Q #[.int .i64 b.kd, .int .i64 b.n, .slice none 0 0, .slice sa b.scr.length scap, .bool b.fav, .int .i64 b.car, .int .i64 b.duty, .int .i64 b.step] := by rw [hX, hQ]; exact World.alloc_heap_new U _
 have hEX : Ext U X := by rw [hX]; exact xx
 have hzQ : Q < X.heap.size := hrX.lt
 rw [← hX, ← hQ]
 have HQ := Lib.hid hQ
 have HRX := Lib.hid hrX
 have HEX := Lib.hid hEX
 have hlow : w.heap.size < Q := by rw [hQ]; exact hz
 have K2 := Lib.hid k2
 have hmany := V.out.many
 clear hX hQ hrX hEX
 go_wp2_with fail
 go_loopw [10] (fun iv W => ∃ (k : Nat) (sa' : Option Addr) (n' c' : Nat), k ≤ b.bets.length ∧ iv = .int .i64 k ∧ RowB W Q #[.int .i64 b.kd, .int .i64 b.n, (.slice sa' n' c'), .slice sa b.scr.length scap, .bool b.fav, .int .i64 b.car, .int .i64 b.duty, .int .i64 b.step] ∧
   Owns W X.heap.size 62 3 (.slice sa' n' c') (((b.bets.take k).filter (offR r)).map betRow) ∧ Kept (fun j => j < X.heap.size ∧ j ≠ Q) X W) (fun iv _ => b.bets.length - (intOf iv).toNat)
 case atStart => exact ⟨0, none, 0, 0, by omega, rfl, HRX.out, Owns.nil _ _ _ _, Kept.refl _ _⟩
 case round =>
  obtain ⟨k, sa', n', c', hk, rfl, hrow, hown, hkp⟩ := hrel
  have HROW := Lib.hid hrow
  have HOWN := Lib.hid hown
  have HKP := Lib.hid hkp
  have hEw : Ext U wr := HEX.out.trans (Kept.below (hkp.mono (T := fun k => k < U.heap.size) fun j _ hj => by have := HEX.out.size; have := HQ.out; omega) HEX.out.size)
  have k2 := cell_ext hEw K2.out
  have hz := World.block_lt_of_cell? _ _ k2
  simp only at hz
  have x2 := hrow.cell 2
  have xf := hrow.fr 2
  have xz := hrow.lt
  simp only [List.getElem?_toArray, List.getElem?_cons_zero, List.getElem?_cons_succ] at x2
  have hzX := hkp.size
  by_cases hlt : k < b.bets.length
  ·have hki : (k : Int) < (b.bets.length : Int) := by omega
   obtain ⟨bb, off, rfl, hc⟩ := bets_cell HS.out.bets hlt
   obtain ⟨⟨d0, d1, d2⟩, -⟩ := hc wr hEw
   have hzd : bb < X.heap.size := by have := (hc U (Below.refl _ _)).2; have := HEX.out.size; omega
   have hft := filt_take (offR r) hlt
   have hfl : (((b.bets.take k).filter (offR r)).map betRow).length + [betRow b.bets[k]].length ≤ 1000000 := by
    have := List.length_filter_le (offR r) (b.bets.take k)
    rw [List.length_take] at this
    simp; omega
   obtain ⟨x, hx⟩ : ∃ x, x = b.bets[k] := ⟨_, rfl⟩
   rw [← hx] at d0 d1 d2 hft hfl
   have HFT := Lib.hid hft
   have HFL := Lib.hid hfl
   clear hft hfl hx hc hrow hown hkp
   by_cases hxf : x.f = r
   ·have f1 : (x.f != r) = false := by rw [bne_eq_false_iff_eq]; exact hxf
    have HT : Hid ((b.bets.take (k + 1)).filter (offR r) = (b.bets.take k).filter (offR r)) := Lib.hid (by rw [HFT.out, if_neg (by unfold offR; simp [hxf]), List.append_nil])
    clear hxf
    go_wp2_with fail
    go_roundw
    case rel => exact ⟨k + 1, sa', n', c', by omega, by go_num, HROW.out, by rw [HT.out]; exact HOWN.out, HKP.out⟩
    case measure => simp [intOf]; omega
   ·have f1 : (x.f != r) = true := by rw [bne_iff_ne]; exact hxf
    by_cases hxs : x.s = r
    ·have f2 : (x.s != r) = false := by rw [bne_eq_false_iff_eq]; exact hxs
     have HT : Hid ((b.bets.take (k + 1)).filter (offR r) = (b.bets.take k).filter (offR r)) := Lib.hid (by rw [HFT.out, if_neg (by unfold offR; simp [hxs]), List.append_nil])
     clear hxf hxs
     go_wp2_with fail
     go_roundw
     case rel => exact ⟨k + 1, sa', n', c', by omega, by go_num, HROW.out, by rw [HT.out]; exact HOWN.out, HKP.out⟩
     case measure => simp [intOf]; omega
    ·have f2 : (x.s != r) = true := by rw [bne_iff_ne]; exact hxs
     have HT : Hid ((b.bets.take (k + 1)).filter (offR r) = (b.bets.take k).filter (offR r) ++ [x]) := Lib.hid (by rw [HFT.out, if_pos (by unfold offR; simp [hxf, hxs])])
     clear hxf hxs
     go_upto_region 11 with (fail)
     refine wp_region_rove_tail rfl rfl (by kernel_rfl) (X.heap.size) (by omega)
      [sqV (.pointer (some ⟨Q, 2, none⟩)), sqV (.slice sa' n' c'), sqV (.pointer (some ⟨w.heap.size, 2, none⟩)), sqV (.slice (some ⟨bb, off, none⟩) b.bets.length bcap), sqV (.int .i64 k), sqV (.pointer (some ⟨bb, off + k * 3, none⟩)), sqV (.agg #[.int .i64 x.f, .int .i64 x.s, .int .i64 x.u]), sqW (fun v W => ∃ b, v = .slice (some ⟨b, 0, none⟩) 1 1 ∧ RowsAt W 3 b 0 ([[Value.int .i64 x.f, .int .i64 x.s, .int .i64 x.u]])) (fun _ _ _ ⟨b, h1, h2⟩ e => ⟨b, h1, h2.ext e⟩), sqW (fun v W => Owns W X.heap.size 62 3 v (((b.bets.take k).filter (offR r)).map betRow ++ [betRow x])) (fun _ _ _ h e => h.ext e), sqV (.pointer (some ⟨Q, 2, none⟩))]
      [true, true, true, true, true, true, true, false, false, true] [false, false, false, false, false, false, false, false, true, false] [true, true, true, true, true, true, true, false, true, true] [true, true, true, true, true, true, true, true, true, false]
      (by kernel_rfl) (by kernel_rfl) (by decide +kernel) (by decide +kernel) (by decide +kernel) rfl ⟨rfl, rfl⟩ ⟨?s0, ?s1, ?s2, ?s3, ?s4, ?s5, ?s6, ?s7, ?s8, ?s9, trivial⟩ [some 68, some 69, some 70, some 71, some 72, some 73, some 74, some 75, some 76, some 77] rfl rfl ?send
     case s0 =>
      intro val ρ W hE hz hd hA hx
      have o0 : ρ (.tmp 9) = .pointer (some ⟨Q, 0, none⟩) := hA.old 9 (by decide)
      clear hd
      exact runq_val (W' := W) (by simp [execOp, o0, go_sem]) (Below.refl _ _) rfl
     case s1 =>
      intro val ρ W hE hz hd hA hx
      have d0 : ρ (.tmp 68) = .pointer (some ⟨Q, 2, none⟩) := (hA.dep 0 (by decide) 68 rfl).trans (hd 0 (by decide))
      have f_x2 := cell_below hE (by simp only; omega) x2
      clear hd
      exact runq_val (W' := W) (by simp [execOp, d0, f_x2, go_sem]) (Below.refl _ _) rfl
     case s2 =>
      intro val ρ W hE hz hd hA hx
      have o0 : ρ (.tmp 3) = .pointer (some ⟨w.heap.size, 0, none⟩) := hA.old 3 (by decide)
      clear hd
      exact runq_val (W' := W) (by simp [execOp, o0, go_sem]) (Below.refl _ _) rfl
     case s3 =>
      intro val ρ W hE hz hd hA hx
      have d2 : ρ (.tmp 70) = .pointer (some ⟨w.heap.size, 2, none⟩) := (hA.dep 2 (by decide) 70 rfl).trans (hd 2 (by decide))
      have f_k2 := cell_below hE (by simp only; omega) k2
      clear hd
      exact runq_val (W' := W) (by simp [execOp, d2, f_k2, go_sem]) (Below.refl _ _) rfl
     case s4 =>
      intro val ρ W hE hz hd hA hx
      have o0 : ρ (.tmp 10) = .int .i64 k := hA.old 10 (by decide)
      clear hd
      exact runq_val (W' := W) (by simp [execOp, o0, go_sem]) (Below.refl _ _) rfl
     case s5 =>
      intro val ρ W hE hz hd hA hx
      have d3 : ρ (.tmp 71) = .slice (some ⟨bb, off, none⟩) b.bets.length bcap := (hA.dep 3 (by decide) 71 rfl).trans (hd 3 (by decide))
      have d4 : ρ (.tmp 72) = .int .i64 k := (hA.dep 4 (by decide) 72 rfl).trans (hd 4 (by decide))
      clear hd
      exact runq_val (W' := W) (by simp [execOp, d3, d4, hki, go_sem]) (Below.refl _ _) rfl
     case s6 =>
      intro val ρ W hE hz hd hA hx
      have d5 : ρ (.tmp 73) = .pointer (some ⟨bb, off + k * 3, none⟩) := (hA.dep 5 (by decide) 73 rfl).trans (hd 5 (by decide))
      have f_d0 := cell_below hE (by simp only; omega) d0
      have f_d1 := cell_below hE (by simp only; omega) d1
      have f_d2 := cell_below hE (by simp only; omega) d2
      clear hd
      exact runq_val (W' := W) (by simp [execOp, d5, f_d0, f_d1, f_d2, go_sem]) (Below.refl _ _) rfl
     case s7 =>
      intro val ρ W hE hz hd hA hx
      have d6 : ρ (.tmp 74) = .agg #[.int .i64 x.f, .int .i64 x.s, .int .i64 x.u] := (hA.dep 6 (by decide) 74 rfl).trans (hd 6 (by decide))
      clear hd hA
      refine runq_val (by simp [execOp, d6, go_sem]; exact ⟨rfl, rfl⟩) (by exact xx) ⟨_, rfl, newRows _ ([[Value.int .i64 x.f, .int .i64 x.s, .int .i64 x.u]]) _ _ _ 3 rfl (by simp) (by simp)⟩
     case s9 =>
      intro val ρ W hE hz hd hA hx
      have o0 : ρ (.tmp 9) = .pointer (some ⟨Q, 0, none⟩) := hA.old 9 (by decide)
      clear hd
      exact runq_val (W' := W) (by simp [execOp, o0, go_sem]) (Below.refl _ _) rfl
     case s8 =>
      intro val ρ W hE hz hd hA hx
      have hW := hx (by decide)
      have d1 : ρ (.tmp 69) = .slice sa' n' c' := (hA.dep 1 (by decide) 69 rfl).trans (hd 1 (by decide))
      obtain ⟨b', e7, h7⟩ : ∃ b', val 7 = .slice (some ⟨b', 0, none⟩) 1 1 ∧ RowsAt W 3 b' 0 [betRow x] := hd 7 (by decide)
      have d7 : ρ (.tmp 75) = .slice (some ⟨b', 0, none⟩) 1 1 := (hA.dep 7 (by decide) 75 rfl).trans e7
      obtain ⟨v', w', hrun, ho, hb⟩ := app_run elBet 22 X.heap.size (HOWN.out.ext hW) b' 0 1 [betRow x] (by simp [betRow]) h7 (by simp [betRow, Value.oneCell']) HFL.out (by have := hW.size; omega)
      exact runq_append (.tmp 69) (.tmp 75) rfl rfl _ _ d1 d7 hrun hb ho
     case send =>
      intro val WW hE hzz hv
      obtain ⟨-, -, -, -, -, -, -, -, r8, r9, -⟩ := hv
      replace r8 : Owns WW X.heap.size 62 3 (val 8) (((b.bets.take k).filter (offR r)).map betRow ++ [betRow x]) := r8
      have q9 : val 9 = .pointer (some ⟨Q, 2, none⟩) := r9
      obtain ⟨va, vn, vc, e8⟩ := r8.isSlice
      rw [e8] at r8
      have hr4 := (hE.block Q hzQ).trans HROW.out
      have y2 : WW.cell? ⟨Q, 2, none⟩ = some (.slice sa' n' c') := by rw [cell_of_row _ _ _ _ _ _ hr4]; rfl
      have yf : WW.frozen? ⟨Q, 2, none⟩ = false := by simp [World.frozen?, hr4]
      have yz := (Array.getElem?_eq_some_iff.1 hr4).1
      have HR4 := Lib.hid hr4
      have HO4 := Lib.hid r8
      have HK4 : Hid (Kept (fun j => j < X.heap.size ∧ j ≠ Q) X WW) := Lib.hid (HKP.out.trans ⟨hE.os, hE.tape, hE.output, hzz, fun j _ hj => hE.block j hj.1⟩)
      simp only [putD, e8, q9]
      go_frame
      clear hE hzz r8 r9 q9 e8 hr4 x2 xf d0 d1 d2
      go_wp2_with fail
      go_roundw
      case rel =>
       refine ⟨k + 1, va, vn, vc, by omega, by go_num, heap_setCell_row HR4.out 2 _, ?_, HK4.out.setCell (fun _ h => h.2 rfl) _⟩
       rw [HT.out, List.map_append]
       exact HO4.out.setOther HR4.out (by decide) 2 _
      case measure => simp [intOf]; omega
  ·have hki : ¬ ((k : Int) < (b.bets.length : Int)) := by omega
   have hke : k = b.bets.length := by omega
   rw [hke, List.take_length] at hown
   have hwn := hown.form
   obtain ⟨_, _, e9, -⟩ := hwn
   have hn' : n' = (leftB b r).bets.length := by
    have := (Value.slice.inj e9).2.1
    simpa [leftB] using this
   subst hn'
   obtain ⟨T, rfl⟩ : ∃ T, T = wr := ⟨_, rfl⟩
   clear hke
   go_upto_region 12 with (fail)
   have hrx : RowB T Q #[.int .i64 (leftB b r).kd, .int .i64 (leftB b r).n, .slice sa' (leftB b r).bets.length c', .slice sa (leftB b r).scr.length scap, .bool (leftB b r).fav, .int .i64 (leftB b r).car, .int .i64 (leftB b r).duty, .int .i64 (leftB b r).step] := hrow
   have hbx : IsBets T (.slice sa' (leftB b r).bets.length c') (leftB b r).bets := by
    have := hown.isRows
    exact this
   obtain ⟨x, hx⟩ : ∃ x, x = leftB b r := ⟨_, rfl⟩
   rw [← hx] at hrx hbx
   have VX : Hid (BVal x) := Lib.hid (by rw [hx]; exact left_val V.out r)
   have hex := bkErr_of VX.out
   have hrl : runL x = L := by rw [hx, HLL.out]; rfl
   have hoff : ∀ z ∈ x.bets, offR r z = true := fun z hz => by rw [hx] at hz; exact (List.mem_filter.1 hz).2
   have HRL := Lib.hid hrl
   have HOF := Lib.hid hoff
   have HXB : Hid (IsBook T x sa' c' sa scap) := Lib.hid ⟨hbx, by
    have h1 := (HS.out.ext hEw).scr
    rw [hx]; exact h1⟩
   have HNT := Lib.hid (HNW.out.ext hEw)
   have HWT := Lib.hid (HW.out.trans' hEw)
   have hrm : r ∈ runL x := by rw [hrl, HLL.out]; exact HRM.out
   have HRX2 := Lib.hid hrm
   have q0 : T.cell? ⟨Q, 0, none⟩ = some (.int .i64 x.kd) := by rw [cell_of_row _ _ _ _ _ _ hrx]; rfl
   have q1 : T.cell? ⟨Q, 1, none⟩ = some (.int .i64 x.n) := by rw [cell_of_row _ _ _ _ _ _ hrx]; rfl
   have q2 : T.cell? ⟨Q, 2, none⟩ = some (.slice sa' x.bets.length c') := by rw [cell_of_row _ _ _ _ _ _ hrx]; rfl
   have q3 : T.cell? ⟨Q, 3, none⟩ = some (.slice sa x.scr.length scap) := by rw [cell_of_row _ _ _ _ _ _ hrx]; rfl
   have q4 : T.cell? ⟨Q, 4, none⟩ = some (.bool x.fav) := by rw [cell_of_row _ _ _ _ _ _ hrx]; rfl
   have q5 : T.cell? ⟨Q, 5, none⟩ = some (.int .i64 x.car) := by rw [cell_of_row _ _ _ _ _ _ hrx]; rfl
   have q6 : T.cell? ⟨Q, 6, none⟩ = some (.int .i64 x.duty) := by rw [cell_of_row _ _ _ _ _ _ hrx]; rfl
   have q7 : T.cell? ⟨Q, 7, none⟩ = some (.int .i64 x.step) := by rw [cell_of_row _ _ _ _ _ _ hrx]; rfl
   have zq := hrx.lt
   clear hbx hrx hx hown hrow hkp hEw e9 hrl hoff hrm x2 xf xz hlow HROW HOWN HKP HRX HEX HQ hzQ hzX K2 HLL HRM HS HNW HW k2 hz hk hki hlt





   have t1 := fun w h => favourite_any x sa' sa c' scap w h
   unfold favA at t1
   rw [if_pos hex, hex] at t1
   obtain ⟨F, hF⟩ : ∃ F, F = favP x := ⟨_, rfl⟩
   rw [← hF] at t1
   have T1 := Lib.hid t1
   have HFF := Lib.hid hF
   clear t1 hF
   go_wp2_with fail
   refine callW (W0 := T) (g := ⟨T, Below.refl _ _⟩) xx (T1.out _ (HXB.out.ext xx)) fun g1 hgr => ?_
   clear hgr
   by_cases h3 : 3 ≤ L.length
   rotate_left
   ·have hse : scrErr x r = 10 := by
     have h1 := runL_len VX.out
     have h2 := runL_mem.1 HRX2.out
     rw [HRL.out] at h1
     unfold scrErr
     rw [if_neg (fun h => h hex), if_neg (by rw [isRun_iff.2 ⟨h2.1, h2.2.1⟩]; simp), if_neg (by rw [h2.2.2]; simp), if_pos (by omega)]
    have t2 : ∀ w, IsBook w x sa' c' sa scap → Calls Try.prog 19 #[.agg #[.int .i64 x.kd, .int .i64 x.n, .slice sa' x.bets.length c', .slice sa x.scr.length scap, .bool x.fav, .int .i64 x.car, .int .i64 x.duty, .int .i64 x.step], .int .i64 r] w fun e w' => e = .returned (.tuple #[.agg #[.int .i64 0, .int .i64 0, .slice none 0 0, .slice none 0 0, .bool false, .int .i64 0, .int .i64 0, .int .i64 0], .int .i64 10]) ∧ Ext w w' := fun w h => (scratch_any r x sa' sa c' scap w h).mono fun e w' ⟨h1, h2⟩ => by
     rw [hse] at h2
     rcases h2 with ⟨-, h2⟩ | ⟨h2, -⟩
     ·exact ⟨h2, h1⟩
     ·cases h2
    have T2 := Lib.hid t2
    have hl2i : ¬ ((2 : Int) < (L.length : Int)) := by omega
    have hd2 : decide ((2 : Int) < (L.length : Int)) = false := decide_eq_false hl2i
    have hd3 : decide (2 < L.length) = false := decide_eq_false (by omega)
    clear t2 hse h3 hl2

    go_wp2_with fail
    refine callW (W0 := T) (g := g1) xx (T2.out _ (HXB.out.ext xx)) fun g2 hgr => ?_
    clear hgr
    go_upto_region 14 with (fail)
    obtain ⟨T9, hT9⟩ : ∃ zz9, zz9 = (grow T g2).alloc (.cells #[.int .i64 0, .int .i64 0, .slice none 0 0, .slice none 0 0, .bool false, .int .i64 0, .int .i64 0, .int .i64 0] 25) := ⟨_, rfl⟩
    have p0 : T9.cell? ⟨(grow T g2).heap.size, 0, none⟩ = some (.int .i64 0) := by rw [hT9]; simp [go_sem]
    have eT9 : Ext T T9 := by rw [hT9]; exact xx
    replace q0 := cell_ext eT9 q0
    replace q1 := cell_ext eT9 q1
    replace q2 := cell_ext eT9 q2
    replace q3 := cell_ext eT9 q3
    replace q4 := cell_ext eT9 q4
    replace q5 := cell_ext eT9 q5
    replace q6 := cell_ext eT9 q6
    replace q7 := cell_ext eT9 q7
    replace HXB := Lib.hid (HXB.out.ext eT9)
    replace HNT := Lib.hid (HNT.out.ext eT9)
    replace HWT := Lib.hid (HWT.out.trans' eT9)
    rw [← hT9]
    obtain ⟨qy, hqy⟩ : ∃ b, b = (grow T g2).heap.size := ⟨_, rfl⟩
    rw [← hqy] at p0 ⊢
    replace zq := World.block_lt_of_cell? _ _ q0
    have zqy := World.block_lt_of_cell? _ _ p0
    simp only at zqy
    clear hT9 eT9 hqy
    by_cases hfr : F = r
    ·have f1 : (F == r) = true := by rw [beq_iff_eq]; exact hfr
     clear hfr
     go_wp2_with fail
     refine (worksL_any _).mono ?_
     rintro e W9 ⟨rfl, hE9⟩
     have HE9 := Lib.hid hE9
     clear hE9
     go_wp2_with fail
     go_ret
     exact ⟨rfl, HWT.out.trans' HE9.out⟩
    ·have f1 : (F == r) = false := by rw [beq_eq_false_iff_ne]; exact hfr
     clear hfr
     go_wp2_with fail
     refine (worksL_any _).mono ?_
     rintro e W9 ⟨rfl, hE9⟩
     have HE9 := Lib.hid hE9
     clear hE9
     go_wp2_with fail
     go_ret
     exact ⟨rfl, HWT.out.trans' HE9.out⟩

   obtain ⟨y, hy⟩ : ∃ y, y = scrP x r := ⟨_, rfl⟩
   have hrl3 : 3 ≤ (runL x).length := by rw [HRL.out]; exact h3
   obtain ⟨u1, u2⟩ := scr_val VX.out HRX2.out hrl3
   have VY : Hid (BVal y) := Lib.hid (by rw [hy]; exact bval_of u1)
   have hey : bkErr y = 0 := by rw [hy]; exact u1
   have t2 : ∀ w, IsBook w x sa' c' sa scap → Calls Try.prog 19 #[.agg #[.int .i64 x.kd, .int .i64 x.n, .slice sa' x.bets.length c', .slice sa x.scr.length scap, .bool x.fav, .int .i64 x.car, .int .i64 x.duty, .int .i64 x.step], .int .i64 r] w fun e w' => Ext w w' ∧ ∃ ya yc ysa ysc, e = .returned (.tuple #[.agg #[.int .i64 y.kd, .int .i64 y.n, .slice ya y.bets.length yc, .slice ysa y.scr.length ysc, .bool y.fav, .int .i64 y.car, .int .i64 y.duty, .int .i64 y.step], .int .i64 0]) ∧ IsBook w' y ya yc ysa ysc := fun w h => (scratch_any r x sa' sa c' scap w h).mono fun e w' ⟨h1, h2⟩ => by
    rw [u2] at h2
    rcases h2 with ⟨h2, -⟩ | ⟨-, ya, ysa, yc, ysc, h2, h3⟩
    ·exact absurd rfl h2
    ·refine ⟨h1, ya, yc, ysa, ysc, ?_, ?_⟩
     ·rw [h2, hy]; rfl
     ·rw [hy]; exact h3
   have t3 := fun (ya ysa : Option Addr) (yc ysc : Nat) w h => refCheck_any y ya ysa yc ysc w h
   rw [hey] at t3
   have T2 := Lib.hid t2
   have T3 := Lib.hid t3
   have HY := Lib.hid hy
   have HL3 := Lib.hid hrl3
   have HEY := Lib.hid hey
   have HEX := Lib.hid hex
   have hl2i : (2 : Int) < (L.length : Int) := by omega
   have hd2 : decide ((2 : Int) < (L.length : Int)) = true := decide_eq_true hl2i
   have hd3 : decide (2 < L.length) = true := decide_eq_true (by omega)
   clear t2 t3 hy u1 u2 hey hrl3 h3 hl2 hex
   go_wp2_with fail
   refine callWR (W0 := T) (g := g1) xx (T2.out _ (HXB.out.ext xx)) (fun _ _ h => h.1) fun _ g3 hgr hr => ?_
   obtain ⟨-, ya, yc, ysa, ysc, rfl, hyb⟩ := hr
   clear hgr
   have HYB := Lib.hid hyb
   clear hyb

   go_upto_region 14 with (fail)
   obtain ⟨Z, hZ⟩ : ∃ zz9, zz9 = (grow T g3).alloc (.cells #[.int .i64 y.kd, .int .i64 y.n, .slice ya y.bets.length yc, .slice ysa y.scr.length ysc, .bool y.fav, .int .i64 y.car, .int .i64 y.duty, .int .i64 y.step] 25) := ⟨_, rfl⟩
   have p0 : Z.cell? ⟨(grow T g3).heap.size, 0, none⟩ = some (.int .i64 y.kd) := by rw [hZ]; simp [go_sem]
   have p1 : Z.cell? ⟨(grow T g3).heap.size, 1, none⟩ = some (.int .i64 y.n) := by rw [hZ]; simp [go_sem]
   have p2 : Z.cell? ⟨(grow T g3).heap.size, 2, none⟩ = some (.slice ya y.bets.length yc) := by rw [hZ]; simp [go_sem]
   have p3 : Z.cell? ⟨(grow T g3).heap.size, 3, none⟩ = some (.slice ysa y.scr.length ysc) := by rw [hZ]; simp [go_sem]
   have p4 : Z.cell? ⟨(grow T g3).heap.size, 4, none⟩ = some (.bool y.fav) := by rw [hZ]; simp [go_sem]
   have p5 : Z.cell? ⟨(grow T g3).heap.size, 5, none⟩ = some (.int .i64 y.car) := by rw [hZ]; simp [go_sem]
   have p6 : Z.cell? ⟨(grow T g3).heap.size, 6, none⟩ = some (.int .i64 y.duty) := by rw [hZ]; simp [go_sem]
   have p7 : Z.cell? ⟨(grow T g3).heap.size, 7, none⟩ = some (.int .i64 y.step) := by rw [hZ]; simp [go_sem]
   have eZ : Ext T Z := by rw [hZ]; exact xx
   have eZc : Ext (grow T g3) Z := by rw [hZ]; exact xx
   replace q0 := cell_ext eZ q0
   replace q1 := cell_ext eZ q1
   replace q2 := cell_ext eZ q2
   replace q3 := cell_ext eZ q3
   replace q4 := cell_ext eZ q4
   replace q5 := cell_ext eZ q5
   replace q6 := cell_ext eZ q6
   replace q7 := cell_ext eZ q7
   replace HXB := Lib.hid (HXB.out.ext eZ)
   replace HNT := Lib.hid (HNT.out.ext eZ)
   replace HYB := Lib.hid (HYB.out.ext eZc)
   replace HWT := Lib.hid (HWT.out.trans' eZ)
   rw [← hZ]
   obtain ⟨qy, hqy⟩ : ∃ b, b = (grow T g3).heap.size := ⟨_, rfl⟩
   rw [← hqy] at p0 p1 p2 p3 p4 p5 p6 p7 ⊢
   replace zq := World.block_lt_of_cell? _ _ q0
   have zqy := World.block_lt_of_cell? _ _ p0
   simp only at zqy
   clear hZ eZ eZc hqy
   by_cases hfr : F = r
   ·have f1 : (F == r) = true := by rw [beq_iff_eq]; exact hfr
    clear hfr

    go_wp2_with fail
    refine (worksL_any _).mono ?_
    rintro e W9 ⟨rfl, hE9⟩
    have HE9 := Lib.hid hE9
    clear hE9
    go_wp2_with fail
    go_ret
    exact ⟨rfl, HWT.out.trans' HE9.out⟩

   have f1 : (F == r) = false := by rw [beq_eq_false_iff_ne]; exact hfr
   have HNF : Hid (favP x ≠ r) := Lib.hid (by rw [← HFF.out]; exact hfr)
   clear hfr
   go_wp2_with fail
   refine callW (W0 := Z) (g := ⟨Z, Below.refl _ _⟩) xx (T3.out _ _ _ _ _ (HYB.out.ext xx)) fun g4 hgr => ?_
   clear hgr
   go_wp2_with fail
   refine callWR (W0 := Z) (g := g4) xx (finishL_any _ bs y ya ysa yc ysc _ (HYB.out.ext xx) VY.out (HNT.out.ext xx) H8.out) (fun _ _ ⟨_, _, _, r, _⟩ => r) fun _ g5 hgr hr => ?_
   obtain ⟨fv, ps, rfl, -, hll, hfs⟩ := hr
   clear hgr
   obtain ⟨fa, fcap, rfl, -, -, -⟩ := hll.fin.spec
   have HF := Lib.hid hll.fin
   have HLO := Lib.hid (ll_one hll)
   have FV : Hid (FinV y (finsOf ps)) := Lib.hid (by rw [hfs]; exact finL_val VY.out bs)
   have hpl : ps.length ≤ 8 := by
    have h1 : (finsOf ps).length = ps.length := by simp [finsOf]
    rw [← h1, hfs]
    exact finN_len _ _ _
   clear hll hfs

   go_upto_region 21 with (fail)
   obtain ⟨V', hV'⟩ : ∃ zz9, zz9 = (grow Z g5) := ⟨_, rfl⟩
   have eV' : Ext Z V' := by rw [hV']; exact xx
   have eV'c : Ext (grow Z g5) V' := by rw [hV']; exact xx
   replace q0 := cell_ext eV' q0
   replace q1 := cell_ext eV' q1
   replace q2 := cell_ext eV' q2
   replace q3 := cell_ext eV' q3
   replace q4 := cell_ext eV' q4
   replace q5 := cell_ext eV' q5
   replace q6 := cell_ext eV' q6
   replace q7 := cell_ext eV' q7
   replace p0 := cell_ext eV' p0
   replace p1 := cell_ext eV' p1
   replace p2 := cell_ext eV' p2
   replace p3 := cell_ext eV' p3
   replace p4 := cell_ext eV' p4
   replace p5 := cell_ext eV' p5
   replace p6 := cell_ext eV' p6
   replace p7 := cell_ext eV' p7
   replace HXB := Lib.hid (HXB.out.ext eV')
   replace HNT := Lib.hid (HNT.out.ext eV')
   replace HYB := Lib.hid (HYB.out.ext eV')
   replace HF := Lib.hid (HF.out.ext eV'c)
   replace HWT := Lib.hid (HWT.out.trans' eV')
   rw [← hV']
   replace zq := World.block_lt_of_cell? _ _ q0
   replace zqy := World.block_lt_of_cell? _ _ p0
   clear hV' eV' eV'c
   obtain ⟨vb, Wb, hap, hownb, hEb⟩ := app_new (w := V'.alloc (.cells #[] 23)) elLst 36 V'.heap.size (isNew V' _ 1 V'.heap.size (Nat.le_refl _)) (ps.map fun x => [x.1]) (by intro z hz; obtain ⟨y, _, rfl⟩ := List.mem_map.1 hz; rfl) (IsRows.ext (by exact xx) HF.out.rows) HLO.out (by rw [List.length_map]; omega) (by simp)
   have hEAb : Ext V' Wb := Ext.trans' (by exact xx) hEb
   obtain ⟨vba, vbc, hvb, -, -, -⟩ := hownb.form
   rw [List.length_map] at hvb
   rw [hvb] at hap hownb
   have HAP := Lib.hid hap
   have HOWB := Lib.hid hownb
   have HEAb := Lib.hid hEAb
   have hzWb := hEAb.size
   have HLEN : Hid ((ps.map fun x => [x.1]).length + [[Value.slice (some ⟨Wb.heap.size, 0, none⟩) 1 1]].length ≤ 1000000) := Lib.hid (by simp; omega)
   clear hap hownb hEb hEAb hvb
   go_wp2_with (first | (at_builtin; refine wpAppRun rfl (.tmp 121) (.tmp 122) rfl rfl rfl HAP.out ?_) | (at_builtin; refine wpApp rfl (.tmp 123) (.tmp 126) elLst rfl V'.heap.size rfl (HOWB.out.ext (by exact xx)) (some ⟨Wb.heap.size + 1, 0, none⟩) 1 [[.slice (some ⟨Wb.heap.size, 0, none⟩) 1 1]] rfl (by simp) (.inr ⟨_, 0, rfl, newRowAt _ [.slice (some ⟨Wb.heap.size, 0, none⟩) 1 1] _ _ _ (by simp) rfl⟩) (by simp [Value.oneCell']) HLEN.out (by simp; omega) ?_))
   intro v' G hown4 hk4
   obtain ⟨qs, hqs⟩ : ∃ qs, qs = ps ++ [(.slice (some ⟨Wb.heap.size, 0, none⟩) 1 1, [r])] := ⟨_, rfl⟩
   have hEa : Ext Wb ((Wb.alloc (.cells #[.int .i64 r] 3)).alloc (.cells #[.slice (some ⟨Wb.heap.size, 0, none⟩) 1 1] 23)) := by exact xx
   have hE : Ext V' G := Below.trans (HEAb.out.trans' hEa) ((HOWB.out.ext hEa).keptBelow (by simp; omega) hk4)
   have hI1 : IsInts G .i64 (.slice (some ⟨Wb.heap.size, 0, none⟩) 1 1) [r] := by
    have h1 : IsRows (Wb.alloc (.cells #[.int .i64 r] 3)) 1 (.slice (some ⟨Wb.heap.size, 0, none⟩) 1 1) [[.int .i64 r]] := rows_new Wb 1 1 [[.int .i64 r]] #[.int .i64 r] _ _ rfl (by simp) rfl rfl (by omega)
    have h2 := IsRows.ext (by exact xx : Ext (Wb.alloc (.cells #[.int .i64 r] 3)) ((Wb.alloc (.cells #[.int .i64 r] 3)).alloc (.cells #[.slice (some ⟨Wb.heap.size, 0, none⟩) 1 1] 23))) h1
    exact IsRows.kept hk4 (.inr fun g hg e => by
     have h3 := (HOWB.out.notOwn g e.symm).2
     simp [Value.ownBlock] at hg
     omega) h2
   have hq1 : IsFin G v' qs := by
    refine ⟨by rw [hqs, List.map_append]; exact hown4.isRows, fun z hz => ?_⟩
    rw [hqs] at hz
    rcases List.mem_append.1 hz with hz | hz
    ·exact (HF.out.ints z hz).ext hE
    ·simp only [List.mem_singleton] at hz
     subst hz
     exact hI1
   obtain ⟨ga, gc, rfl, -, -, -⟩ := hq1.spec
   have hqf : finsOf qs = finsOf ps ++ [[r]] := by rw [hqs]; simp [finsOf]
   have GV : Hid (FinV x (finsOf qs)) := Lib.hid (by rw [hqf]; exact nob_fin VX.out HRX2.out (by rw [← HY.out]; exact FV.out))
   have HWI : Hid (winsP x (finsOf qs) = winsP y (finsOf ps)) := Lib.hid (by rw [hqf, HY.out]; exact nob_wins VX.out HRX2.out (by rw [← HY.out]; exact FV.out))
   have hac : accA x (finsOf qs) = accA y (finsOf ps) := by
    have hw := HWI.out
    rw [HY.out] at hw ⊢
    exact nob_acc VX.out HOF.out HRX2.out HL3.out HNF.out hw
   have hno : ∀ s ∈ winsP x (finsOf qs), s.1 ≠ r ∧ s.2 ≠ r := fun s hs => by
    rw [HWI.out, HY.out] at hs
    exact nob_not (runL_mem.1 HRX2.out).1 (by rw [← HY.out]; exact FV.out) hs
   have GE := finErr_of HEX.out GV.out
   have FE := finErr_of HEY.out FV.out
   obtain ⟨M, hM⟩ : ∃ M, M = winsP x (finsOf qs) := ⟨_, rfl⟩
   obtain ⟨A, hA⟩ : ∃ A, A = accA x (finsOf qs) := ⟨_, rfl⟩
   have t4 := fun w h1 h2 => winnersP_any qs (.slice ga qs.length gc) x sa' sa c' scap w h1 h2
   have hwm : winL x (finsOf qs) = M := by unfold winL; rw [if_pos GE, hM]
   unfold RetWin at t4
   rw [hwm, GE] at t4
   have t5 := fun w h1 h2 => account_any qs (.slice ga qs.length gc) x sa' sa c' scap w h1 h2
   have t6 := fun w h1 h2 => account_any ps (.slice fa ps.length fcap) y ya ysa yc ysc w h1 h2
   rw [accE_ok GE, ← hA] at t5
   rw [accE_ok FE, ← hac, ← hA] at t6
   simp only [accV, accC] at t5 t6
   rw [← hM] at hno
   have l1 : M.length ≤ 64 := by rw [hM]; exact winsP_le GV.out
   have T4 := Lib.hid t4
   have T5 := Lib.hid t5
   have T6 := Lib.hid t6
   have HNO := Lib.hid hno
   have HQ := Lib.hid hq1
   replace q0 := cell_ext hE q0
   replace q1 := cell_ext hE q1
   replace q2 := cell_ext hE q2
   replace q3 := cell_ext hE q3
   replace q4 := cell_ext hE q4
   replace q5 := cell_ext hE q5
   replace q6 := cell_ext hE q6
   replace q7 := cell_ext hE q7
   replace p0 := cell_ext hE p0
   replace p1 := cell_ext hE p1
   replace p2 := cell_ext hE p2
   replace p3 := cell_ext hE p3
   replace p4 := cell_ext hE p4
   replace p5 := cell_ext hE p5
   replace p6 := cell_ext hE p6
   replace p7 := cell_ext hE p7
   have zqq := World.block_lt_of_cell? _ _ q0
   have zpp := World.block_lt_of_cell? _ _ p0
   simp only at zqq zpp
   replace HXB := Lib.hid (HXB.out.ext hE)
   replace HYB := Lib.hid (HYB.out.ext hE)
   replace HF := Lib.hid (HF.out.ext hE)
   replace HWT := Lib.hid (HWT.out.trans' hE)
   clear hown4 hk4 hEa hE hI1 hq1 hqs hqf hac hno GE FE hM hA hwm t4 t5 t6 HAP HOWB HEAb hzWb HLEN HLO HNT H8





   go_wp2_with fail
   refine callWR (W0 := G) (g := ⟨G, Below.refl _ _⟩) xx (T4.out _ (HXB.out.ext xx) (HQ.out.ext xx)) (fun _ _ h => h.1) fun _ g1 hgr hr => ?_
   obtain ⟨-, u, rfl, hU⟩ := hr
   clear hgr
   obtain ⟨ma, mc, rfl, hu1, hu2, -⟩ := two_cells hU
   have HM1 := Lib.hid hU
   clear hU

   go_upto_region 24 with (fail)
   obtain ⟨H, hH⟩ : ∃ zz9, zz9 = (grow G g1) := ⟨_, rfl⟩
   have eH : Ext G H := by rw [hH]; exact xx
   have eHc : Ext (grow G g1) H := by rw [hH]; exact xx
   replace q0 := cell_ext eH q0
   replace q1 := cell_ext eH q1
   replace q2 := cell_ext eH q2
   replace q3 := cell_ext eH q3
   replace q4 := cell_ext eH q4
   replace q5 := cell_ext eH q5
   replace q6 := cell_ext eH q6
   replace q7 := cell_ext eH q7
   replace p0 := cell_ext eH p0
   replace p1 := cell_ext eH p1
   replace p2 := cell_ext eH p2
   replace p3 := cell_ext eH p3
   replace p4 := cell_ext eH p4
   replace p5 := cell_ext eH p5
   replace p6 := cell_ext eH p6
   replace p7 := cell_ext eH p7
   replace HXB := Lib.hid (HXB.out.ext eH)
   replace HYB := Lib.hid (HYB.out.ext eH)
   replace HF := Lib.hid (HF.out.ext eH)
   replace HQ := Lib.hid (HQ.out.ext eH)
   replace HM1 := Lib.hid (HM1.out.ext eHc)
   replace HWT := Lib.hid (HWT.out.trans' eH)
   rw [← hH]
   replace zqq := World.block_lt_of_cell? _ _ q0
   replace zpp := World.block_lt_of_cell? _ _ p0
   clear hH eH eHc
   simp only at zqq zpp
   go_wp2_with fail
   go_loopw [18] (fun iv W => ∃ i : Nat, i ≤ M.length ∧ iv = .int .i64 i ∧ Ext H W) (fun iv _ => M.length - (intOf iv).toNat)
   case atStart => exact ⟨0, by omega, rfl, Below.refl _ _⟩
   case round =>
    obtain ⟨i, hi, rfl, hE⟩ := hrel
    have HE := Lib.hid hE
    by_cases hlt : i < M.length
    ·have hii : (i : Int) < (M.length : Int) := by omega
     obtain ⟨_, _, e9, -, -, hcc⟩ := two_cells HM1.out
     cases e9
     obtain ⟨mb, mo, hs9, hcd⟩ := hcc i hlt
     subst hs9
     obtain ⟨m0, m1, hzm⟩ := hcd wr hE
     have hno := HNO.out _ (List.getElem_mem hlt)
     obtain ⟨s, hs⟩ : ∃ s, s = M[i] := ⟨_, rfl⟩
     rw [← hs] at m0 m1 hno
     obtain ⟨s1, s2⟩ := s
     simp only at m0 m1 hno
     have n1 : (s1 == r) = false := by rw [beq_eq_false_iff_ne]; exact hno.1
     have n2 : (s2 == r) = false := by rw [beq_eq_false_iff_ne]; exact hno.2
     clear hs hcc hcd hE hno q0 q1 q2 q3 q4 q5 q6 q7 p0 p1 p2 p3 p4 p5 p6 p7 zqq zpp
     go_wp2_with fail
     go_roundw
     case rel => exact ⟨i + 1, by omega, by go_num, HE.out⟩
     case measure => simp [intOf]; omega
    ·have hii : ¬ ((i : Int) < (M.length : Int)) := by omega
     obtain ⟨gk, rfl⟩ := grow_of hE
     have qA := fun W => acc_eql A W
     simp only [accV, accC] at qA
     clear hE

     go_wp2_with fail
     refine callW (W0 := H) (g := gk) xx (T5.out _ (HXB.out.ext xx) (HQ.out.ext xx)) fun g2 hgr => ?_
     clear hgr
     go_upto_region 31 with (fail)
     obtain ⟨R1, hR1⟩ : ∃ zz9, zz9 = (grow H g2).alloc (.cells #[.int .i64 A.i, .int .i64 A.k, .int .i64 A.d, .int .i64 A.p, .int .i64 A.q, .int .i64 A.o] 48) := ⟨_, rfl⟩
     have a0 : R1.cell? ⟨(grow H g2).heap.size, 0, none⟩ = some (.int .i64 A.i) := by rw [hR1]; simp [go_sem]
     have a1 : R1.cell? ⟨(grow H g2).heap.size, 1, none⟩ = some (.int .i64 A.k) := by rw [hR1]; simp [go_sem]
     have a2 : R1.cell? ⟨(grow H g2).heap.size, 2, none⟩ = some (.int .i64 A.d) := by rw [hR1]; simp [go_sem]
     have a3 : R1.cell? ⟨(grow H g2).heap.size, 3, none⟩ = some (.int .i64 A.p) := by rw [hR1]; simp [go_sem]
     have a4 : R1.cell? ⟨(grow H g2).heap.size, 4, none⟩ = some (.int .i64 A.q) := by rw [hR1]; simp [go_sem]
     have a5 : R1.cell? ⟨(grow H g2).heap.size, 5, none⟩ = some (.int .i64 A.o) := by rw [hR1]; simp [go_sem]
     have eR1 : Ext H R1 := by rw [hR1]; exact xx
     replace q0 := cell_ext eR1 q0
     replace q1 := cell_ext eR1 q1
     replace q2 := cell_ext eR1 q2
     replace q3 := cell_ext eR1 q3
     replace q4 := cell_ext eR1 q4
     replace q5 := cell_ext eR1 q5
     replace q6 := cell_ext eR1 q6
     replace q7 := cell_ext eR1 q7
     replace p0 := cell_ext eR1 p0
     replace p1 := cell_ext eR1 p1
     replace p2 := cell_ext eR1 p2
     replace p3 := cell_ext eR1 p3
     replace p4 := cell_ext eR1 p4
     replace p5 := cell_ext eR1 p5
     replace p6 := cell_ext eR1 p6
     replace p7 := cell_ext eR1 p7
     replace HXB := Lib.hid (HXB.out.ext eR1)
     replace HYB := Lib.hid (HYB.out.ext eR1)
     replace HF := Lib.hid (HF.out.ext eR1)
     replace HQ := Lib.hid (HQ.out.ext eR1)
     replace HM1 := Lib.hid (HM1.out.ext eR1)
     replace HWT := Lib.hid (HWT.out.trans' eR1)
     rw [← hR1]
     obtain ⟨qa, hqa⟩ : ∃ b, b = (grow H g2).heap.size := ⟨_, rfl⟩
     rw [← hqa] at a0 a1 a2 a3 a4 a5 ⊢
     replace zqq := World.block_lt_of_cell? _ _ q0
     replace zpp := World.block_lt_of_cell? _ _ p0
     have zqa := World.block_lt_of_cell? _ _ a0
     simp only at zqa
     clear hR1 eR1 hqa
     go_wp2_with fail
     refine callW (W0 := R1) (g := ⟨R1, Below.refl _ _⟩) xx (T6.out _ (HYB.out.ext xx) (HF.out.ext xx)) fun g3 hgr => ?_
     clear hgr
     go_upto_region 32 with (fail)
     obtain ⟨R2, hR2⟩ : ∃ zz9, zz9 = (grow R1 g3).alloc (.cells #[.int .i64 A.i, .int .i64 A.k, .int .i64 A.d, .int .i64 A.p, .int .i64 A.q, .int .i64 A.o] 48) := ⟨_, rfl⟩
     have c0 : R2.cell? ⟨(grow R1 g3).heap.size, 0, none⟩ = some (.int .i64 A.i) := by rw [hR2]; simp [go_sem]
     have c1 : R2.cell? ⟨(grow R1 g3).heap.size, 1, none⟩ = some (.int .i64 A.k) := by rw [hR2]; simp [go_sem]
     have c2 : R2.cell? ⟨(grow R1 g3).heap.size, 2, none⟩ = some (.int .i64 A.d) := by rw [hR2]; simp [go_sem]
     have c3 : R2.cell? ⟨(grow R1 g3).heap.size, 3, none⟩ = some (.int .i64 A.p) := by rw [hR2]; simp [go_sem]
     have c4 : R2.cell? ⟨(grow R1 g3).heap.size, 4, none⟩ = some (.int .i64 A.q) := by rw [hR2]; simp [go_sem]
     have c5 : R2.cell? ⟨(grow R1 g3).heap.size, 5, none⟩ = some (.int .i64 A.o) := by rw [hR2]; simp [go_sem]
     have eR2 : Ext R1 R2 := by rw [hR2]; exact xx
     replace q0 := cell_ext eR2 q0
     replace q1 := cell_ext eR2 q1
     replace q2 := cell_ext eR2 q2
     replace q3 := cell_ext eR2 q3
     replace q4 := cell_ext eR2 q4
     replace q5 := cell_ext eR2 q5
     replace q6 := cell_ext eR2 q6
     replace q7 := cell_ext eR2 q7
     replace p0 := cell_ext eR2 p0
     replace p1 := cell_ext eR2 p1
     replace p2 := cell_ext eR2 p2
     replace p3 := cell_ext eR2 p3
     replace p4 := cell_ext eR2 p4
     replace p5 := cell_ext eR2 p5
     replace p6 := cell_ext eR2 p6
     replace p7 := cell_ext eR2 p7
     replace a0 := cell_ext eR2 a0
     replace a1 := cell_ext eR2 a1
     replace a2 := cell_ext eR2 a2
     replace a3 := cell_ext eR2 a3
     replace a4 := cell_ext eR2 a4
     replace a5 := cell_ext eR2 a5
     replace HXB := Lib.hid (HXB.out.ext eR2)
     replace HYB := Lib.hid (HYB.out.ext eR2)
     replace HF := Lib.hid (HF.out.ext eR2)
     replace HQ := Lib.hid (HQ.out.ext eR2)
     replace HM1 := Lib.hid (HM1.out.ext eR2)
     replace HWT := Lib.hid (HWT.out.trans' eR2)
     rw [← hR2]
     obtain ⟨qb, hqb⟩ : ∃ b, b = (grow R1 g3).heap.size := ⟨_, rfl⟩
     rw [← hqb] at c0 c1 c2 c3 c4 c5 ⊢
     replace zqq := World.block_lt_of_cell? _ _ q0
     replace zpp := World.block_lt_of_cell? _ _ p0
     replace zqa := World.block_lt_of_cell? _ _ a0
     have zqb := World.block_lt_of_cell? _ _ c0
     simp only at zqb
     clear hR2 eR2 hqb
     go_wp2_with fail
     refine (worksL_any _).mono ?_
     rintro e W9 ⟨rfl, hE9⟩
     have HE9 := Lib.hid hE9
     clear hE9
     go_wp2_with fail
     go_ret
     exact ⟨rfl, HWT.out.trans' HE9.out⟩
end Go.Proofs.Ytphajlldghcnnaa
namespace Go.Proofs.Ytphajlldghcnnaa
open Go.RowKit
open Go.ChangeShapes Go.WideShapes Go.ChangeAt in
set_option maxRecDepth 100000 in
theorem poolNobody_lifted (os : Os) (started : os.Started) (H : Type) (enc : TypeId × Value → H) :
  ReturnsInHanded {} Try.checked os 14 .any (Rows.poolNobodySpec.pre6 enc Try.prog Try.f14 Rows.poolNobodyRow.domain false) (Rows.poolNobodySpec.post enc Try.prog Try.f14 false true false false) := by
 refine returnsInHanded_of_change (C := Try.checked) own started (by kernel_rfl) Try.func14
  (ChangeSpec.witness6 (enc := enc) (C := Try.checked) false ⟨#[], #[.agg #[.int .i64 0, .int .i64 0, .slice none 0 0, .slice none 0 0, .bool false, .int .i64 0, .int .i64 0, .int .i64 0], .int .u8 0, .slice none 0 0], []⟩ 8 (by kernel_rfl) (by kernel_rfl) (by kernel_rfl) (by kernel_rfl)) ?_
 intro W base args ds gs before hval0 hW hcnd _
 have hval : ∀ (j : Nat) t v, Try.f14.params[j]? = some t → args[j]? = some v → Value.okWide Try.prog W .any base t v := hval0
 have hW' := hW
 obtain ⟨p, q, hA0, hV, rfl, hfz, hnd⟩ := hW
 have hA : DataW.TrodAll enc Try.prog W 0 (fun _ => true) true Try.f14.params.toList args.toList ds p := hA0
 rw [Try.params14] at hA hval
 obtain ⟨v0, vs0, d0, ds0, p0, q0, hargs, rfl, rfl, h0, r0⟩ := trodAll_cons hA
 obtain ⟨v1, vs1, d1, ds1, p1, q1, rfl, rfl, rfl, h1, r1⟩ := trodAll_cons r0
 obtain ⟨v2, vs2, d2, ds2, p2, q2, rfl, rfl, rfl, h2, r2⟩ := trodAll_cons r1
 obtain ⟨rfl, rfl, rfl⟩ := trodAll_nil r2
 obtain rfl : args = #[v0, v1, v2] := by cases args; simp_all
 obtain ⟨b, ba, bs, bc, bd, rfl, hb⟩ := openBook (hval 0 25 v0 rfl rfl) h0
 obtain ⟨r, rfl, rfl, rfl, wr⟩ := open_int Try.underlying5 (hval 1 5 v1 rfl rfl) h1
 obtain ⟨ns, hns, wns⟩ := openNumsK (k := .u8) Try.underlying59 Try.underlying5 (by kernel_rfl) (hval 2 59 v2 rfl rfl) h2
 clear hA0 hval0
 refine (poolNobody_any b ba bs bc bd r v2 ns W hb wr hns wns).mono fun e W' ⟨he, hb⟩ => ?_
 subst he
 exact ⟨_, rfl, law_post laidOut (tb := 4) (hts_of (by kernel_rfl)) (by kernel_rfl) Try.underlying4 hW' rfl rfl hb⟩
theorem poolNobody_holds : Rows.PoolNobodySaid :=
 OpenClaim.holds_of_wide 14 Try.f14 rfl rfl rfl rfl rfl rfl rfl ⟨rfl, rfl, rfl, rfl, rfl⟩ rfl rfl rfl rfl rfl (by kernel_rfl) Try.func14 (by kernel_rfl)
  (of_decide_eq_true (by kernel_rfl)) (by unfold Func.isWrapper; first | (rw [if_pos (by decide +kernel)]; kernel_rfl) | (rw [if_neg (by decide +kernel)]; exact ⟨rfl, rfl⟩))
  (fun os started H enc _ => poolNobody_lifted os started H enc)
end Go.Proofs.Ytphajlldghcnnaa
