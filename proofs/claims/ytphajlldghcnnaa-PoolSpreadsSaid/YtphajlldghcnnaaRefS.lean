/-
 The walk of the reference's Spread.
-/
import Derived.Test.YtphajlldghcnnaaSprM
import Derived.Test.YtphajlldghcnnaaPv
import Derived.Test.YtphajlldghcnnaaPw
import Derived.Test.YtphajlldghcnnaaPm
import Derived.Test.YtphajlldghcnnaaRoveG
namespace Go.Proofs.Ytphajlldghcnnaa
open Go.RowKit Go.Shelf
def RngB (W : World) (g : Nat) (lo hi : Int) : Prop := W.heap[g]? = some (.cells #[.int .i64 lo, .int .i64 hi] 56 (0, 0))
section
variable {W : World} {g : Nat} {lo hi : Int} (h : RngB W g lo hi)
include h
theorem RngB.c0 : W.cell? ⟨g, 0, none⟩ = some (.int .i64 lo) := by rw [cell_of_row _ _ _ _ _ _ h]; rfl
theorem RngB.c1 : W.cell? ⟨g, 1, none⟩ = some (.int .i64 hi) := by rw [cell_of_row _ _ _ _ _ _ h]; rfl
theorem RngB.fr (o : Nat) : W.frozen? ⟨g, o, none⟩ = false := by
 have h' : W.heap[g]? = _ := h
 simp [World.frozen?, h']
theorem RngB.lt : g < W.heap.size := World.block_lt_of_cell? _ _ h.c0
theorem RngB.ext {W' : World} (e : Ext W W') : RngB W' g lo hi := (e.block _ h.lt).trans h
theorem RngB.set (a b : Int) : RngB ((W.setCell ⟨g, 0, none⟩ (.int .i64 a)).setCell ⟨g, 1, none⟩ (.int .i64 b)) g a b := heap_setCell_row (heap_setCell_row h 0 (.int .i64 a)) 1 (.int .i64 b)
end
theorem GrpM.finT {W : World} {B gb : Nat} {vs : Nat → Value} {ls : Nat → List Int} (h : GrpM W B gb vs ls) {m : Nat} (hm : m ≤ 3) : IsFin W (.slice (some ⟨gb, 0, none⟩) m 3) ((grpPs vs ls).take m) := by
 have hf := h.ll.fin
 refine ⟨?_, fun x hx => hf.ints x (List.mem_of_mem_take hx)⟩
 obtain ⟨sa, cap, e1, e2, e3, e4⟩ := hf.rows
 have hl : ((grpPs vs ls).take m).length = m := by rw [List.length_take]; simp [grpPs]; omega
 refine ⟨some ⟨gb, 0, none⟩, 3, by rw [List.length_map, hl], by rw [List.length_map, hl]; omega, by omega, .inr ⟨gb, 0, rfl, ?_⟩⟩
 have e5 := (Value.slice.inj e1).1
 rcases e4 with e4 | ⟨b, off, e6, e4⟩
 ·simp [grpPs] at e4
 ·rw [e6] at e5
  cases e5
  rw [List.map_take]
  exact e4.take m
theorem pow3w {n : Nat} (h : n ≤ 8) : 1 ≤ 3 ^ n ∧ 3 ^ n ≤ 6561 := by
 match n, h with
 | 0, _ => decide
 | 1, _ => decide
 | 2, _ => decide
 | 3, _ => decide
 | 4, _ => decide
 | 5, _ => decide
 | 6, _ => decide
 | 7, _ => decide
 | 8, _ => decide
set_option maxRecDepth 100000 in
set_option maxHeartbeats 8000000 in
theorem refSpread_any (b : Bk) (ba sa : Option Addr) (bcap scap : Nat) (w : World) (hv : IsBook w b ba bcap sa scap) :
  Calls Try.prog 40 #[.agg #[.int .i64 b.kd, .int .i64 b.n, .slice ba b.bets.length bcap, .slice sa b.scr.length scap, .bool b.fav, .int .i64 b.car, .int .i64 b.duty, .int .i64 b.step]] w (RetSpr w b) := by
 have HV := Lib.hid hv
 clear hv
 go_enter Try.func40, Try.ntmps40
 go_upto_region 1 with (fail)
 obtain ⟨W0, hW0⟩ : ∃ W0, W0 = (w.alloc (.cells #[.int .i64 b.kd, .int .i64 b.n, .slice ba b.bets.length bcap, .slice sa b.scr.length scap, .bool b.fav, .int .i64 b.car, .int .i64 b.duty, .int .i64 b.step] 25)).alloc (.cells #[.int .i64 0, .int .i64 0] 56) := ⟨_, rfl⟩
 have hE0 : Ext w W0 := by rw [hW0]; exact xx
 have hbk0 : BookAt W0 w.heap.size b ba bcap sa scap := by rw [hW0]; constructor <;> simp [go_sem]
 have hzr : RngB W0 (w.heap.size + 1) 0 0 := by
  rw [hW0]
  have := World.alloc_heap_new (w.alloc (.cells #[.int .i64 b.kd, .int .i64 b.n, .slice ba b.bets.length bcap, .slice sa b.scr.length scap, .bool b.fav, .int .i64 b.car, .int .i64 b.duty, .int .i64 b.step] 25)) (.cells #[.int .i64 0, .int .i64 0] 56)
  rwa [World.size_alloc] at this
 rw [← hW0]
 have k0 := (hbk0).c0
 have k1 := (hbk0).c1
 have k2 := (hbk0).c2
 have k3 := (hbk0).c3
 have k4 := (hbk0).c4
 have k5 := (hbk0).c5
 have k6 := (hbk0).c6
 have k7 := (hbk0).c7
 have hz := (hbk0).lt
 have HE0 := Lib.hid hE0
 have HBK0 := Lib.hid hbk0
 have HZ0 := Lib.hid hzr
 clear hW0 hE0 hbk0 hzr
 go_wp2_with fail
 refine (refCheck_any b ba sa bcap scap _ (HV.out.ext HE0.out)).mono ?_
 rintro e W1 ⟨rfl, hE1⟩
 obtain ⟨er, her⟩ : ∃ er, er = bkErr b := ⟨_, rfl⟩
 rw [← her]
 have HE1 := Lib.hid (HE0.out.trans' hE1)
 have HBK1 := Lib.hid (HBK0.out.ext hE1)
 have HZ1 := Lib.hid (HZ0.out.ext hE1)
 clear hE1 k0 k1 k2 k3 k4 k5 k6 k7
 have hbk := HBK1.out
 have k0 := (hbk).c0
 have k1 := (hbk).c1
 have k2 := (hbk).c2
 have k3 := (hbk).c3
 have k4 := (hbk).c4
 have k5 := (hbk).c5
 have k6 := (hbk).c6
 have k7 := (hbk).c7
 have hz := (hbk).lt
 clear hbk
 by_cases hne : er = 0
 rotate_left
 ·have f1 : (er != 0) = true := by simpa using hne
  have HER := Lib.hid her
  have HNE := Lib.hid hne
  clear her hne
  go_wp2_with fail
  refine (refCheck_any b ba sa bcap scap _ (HV.out.ext HE1.out)).mono ?_
  rintro e W2 ⟨rfl, hE2⟩
  rw [← HER.out]
  have hzr := HZ1.out.ext hE2
  have c0 := hzr.c0
  have c1 := hzr.c1
  have cf := fun o => hzr.fr o
  have cz := hzr.lt
  have HE2 := Lib.hid (HE1.out.trans' hE2)
  clear hE2 hzr
  go_wp2_with fail
  refine bodyPost_ret (v := .tuple #[.agg #[.int .i64 0, .int .i64 0], .int .i64 er]) (by simp [results, Try.results40, go_sem, c0, c1]) rfl ?_
  refine ⟨(HE2.out.setCell (p := ⟨w.heap.size + 1, 0, none⟩) (Nat.le_succ _) _).setCell (p := ⟨w.heap.size + 1, 1, none⟩) (Nat.le_succ _) _, ?_⟩
  unfold sprLo sprHi
  rw [if_neg (by rw [← HER.out]; exact HNE.out), if_neg (by rw [← HER.out]; exact HNE.out), ← HER.out]
 subst hne
 have V := Lib.hid (bval_of her.symm)
 have H0 := Lib.hid her.symm
 clear her
 go_wp2_with fail
 refine (runR_any b ba sa bcap scap _ (HV.out.ext HE1.out) V.out).mono ?_
 rintro e W2 ⟨lv, rfl, hE2, hown⟩
 have hl2 := runL_two V.out
 have hl8 := runL_le V.out
 obtain ⟨L, hL⟩ : ∃ L, L = runL b := ⟨_, rfl⟩
 rw [← hL] at hown hl2 hl8
 have HLL := Lib.hid hL
 obtain ⟨lb, lc, rfl, -, -, -, -⟩ := hown.cellsN (by omega)
 have HLI : Hid (IsInts W2 .i64 (.slice (some ⟨lb, 0, none⟩) L.length lc) L) := Lib.hid hown.oneInts
 have HE2 := Lib.hid (HE1.out.trans' hE2)
 have HBK2 := Lib.hid (HBK1.out.ext hE2)
 have HZ2 := Lib.hid (HZ1.out.ext hE2)
 clear hE2 hown hL k0 k1 k2 k3 k4 k5 k6 k7 hz
 go_wp2_with fail
 go_loopw [5, 6] (fun pv iv W => ∃ (i P : Nat), i ≤ L.length ∧ iv = .int .i64 i ∧ pv = .int .i64 P ∧ P = 3 ^ i ∧ Ext W2 W) (fun _ iv _ => L.length - (intOf iv).toNat)
 case atStart => exact ⟨0, 1, by omega, rfl, rfl, rfl, Below.refl _ _⟩
 case round =>
  obtain ⟨i, P, hi, rfl, rfl, hP, hE⟩ := hrel
  have HE := Lib.hid hE
  have hP2 : 1 ≤ P ∧ P ≤ 6561 := by rw [hP]; exact pow3w (by omega)
  have HP := Lib.hid hP
  clear hP
  by_cases hlt : i < L.length
  ·have hii : (i : Int) < (L.length : Int) := by omega
   have hw : IntKind.i64.wrap ((P : Int) * 3) = (P : Int) * 3 := IntWalk.i64_in _ (by omega)
   clear hE
   go_wp2_with fail
   go_roundw
   case rel => exact ⟨i + 1, P * 3, by omega, by go_num, by go_num, by rw [HP.out, Nat.pow_succ], HE.out⟩
   case measure => simp [intOf]; omega
  ·have hii : ¬ ((i : Int) < (L.length : Int)) := by omega
   have HPN : Hid (P = 3 ^ L.length) := Lib.hid (by rw [HP.out]; congr 1; omega)
   go_upto_region 10 with (fail)
   obtain ⟨U, rfl⟩ : ∃ U, U = wr := ⟨_, rfl⟩
   have hwU := (HE2.out.trans' hE).size
   obtain ⟨X, hX⟩ : ∃ X, X = U.alloc (.cells #[.int .i64 0, .int .i64 0] 56) := ⟨_, rfl⟩
   obtain ⟨O, hO⟩ : ∃ O, O = U.heap.size := ⟨_, rfl⟩
   have hrO : RngB X O 0 0 := by rw [hX, hO]; exact World.alloc_heap_new U _
   have hEX : Ext U X := by rw [hX]; exact xx
   rw [← hX, ← hO]
   have HU := Lib.hid hE
   have HS := Lib.hid ((HV.out.ext HE2.out).ext hE)
   have HLU := Lib.hid (HLI.out.ext hE)
   have HBKU := Lib.hid (HBK2.out.ext hE)
   have HZU := Lib.hid (HZ2.out.ext hE)
   have HRO := Lib.hid hrO
   have HEX := Lib.hid hEX
   have HO := Lib.hid hO
   have hzO := hrO.lt
   have HSP := Lib.hid (ways_spr V.out)
   have hww : w.heap.size + 1 < U.heap.size := HZU.out.lt
   clear hX hrO hEX hE hO
   go_wp2_with fail
   go_loopw [8, 9] (fun fv wv W => ∃ (way : Nat) (c : Bool) (lo hi : Int) (S : List Int), way ≤ P ∧ wv = .int .i64 way ∧ fv = .bool c ∧ (c = true ↔ S ≠ []) ∧ S = waysP b way ∧ lo = loS S ∧ hi = hiS S ∧ RngB W O lo hi ∧ Kept (fun g => g < X.heap.size ∧ g ≠ O) X W) (fun _ wv _ => P - (intOf wv).toNat)
   case atStart => exact ⟨0, false, 0, 0, [], by omega, rfl, rfl, by simp, rfl, rfl, rfl, HRO.out, Kept.refl _ _⟩
   case round =>
    obtain ⟨way, c, lo, hi, S, hway, rfl, rfl, hc, hS, hlo, hhi, hro, hkp⟩ := hrel
    have HC := Lib.hid hc
    have HSS := Lib.hid hS
    have HLO := Lib.hid hlo
    have HHI := Lib.hid hhi
    have HRW := Lib.hid hro
    have HKP := Lib.hid hkp
    have hEw : Ext U wr := HEX.out.trans (Kept.below (hkp.mono (T := fun g => g < U.heap.size) fun g _ hg => by have := HEX.out.size; have := HO.out; omega) HEX.out.size)
    have HEW := Lib.hid hEw
    have hzX := hkp.size
    by_cases hlt : way < P
    ·have hwi : (way : Int) < (P : Int) := by omega
     obtain ⟨Y, rfl⟩ : ∃ Y, Y = wr := ⟨_, rfl⟩
     obtain ⟨W3, hmk, hG2, hE3⟩ := make_lists Y
     obtain ⟨gb, hgb⟩ : ∃ gb, gb = Y.heap.size := ⟨_, rfl⟩
     rw [← hgb] at hmk
     have hG3 : GrpM W3 Y.heap.size gb (fun _ => .slice none 0 0) (fun k => grpR L (digW way) k 0) := by rw [hgb]; exact hG2
     have HG3 := Lib.hid hG3
     have HE3 := Lib.hid hE3
     have hgbY : Y.heap.size ≤ gb := by omega
     clear hgb hG2 hG3 hE3 hc hS hlo hhi hro hkp hEw
     go_wp2_with fail
     clear hmk
     go_loopw [11, 12] (fun rv iv Wi => ∃ (i R : Nat) (vs : Nat → Value), i ≤ L.length ∧ iv = .int .i64 i ∧ rv = .int .i64 R ∧ R = way / 3 ^ i ∧ GrpM Wi Y.heap.size gb vs (fun k => grpR L (digW way) k i) ∧ Ext Y Wi) (fun _ iv _ => L.length - (intOf iv).toNat)
     case atStart => exact ⟨0, way, _, by omega, rfl, rfl, by simp, HG3.out, HE3.out⟩
     case round =>
      obtain ⟨i, R, vs, hi2, rfl, rfl, hR, hG, hEY⟩ := hrel
      have HG := Lib.hid hG
      have HEY := Lib.hid hEY
      have HR := Lib.hid hR
      have hRw : R ≤ 6561 := by rw [hR]; exact Nat.le_trans (Nat.div_le_self _ _) (by omega)
      by_cases hlt2 : i < L.length
      ·have hii : (i : Int) < (L.length : Int) := by omega
       obtain ⟨_, _, he1, hcl⟩ := ints_cell HLU.out hlt2
       cases he1
       obtain ⟨d0, hzd⟩ := hcl wr (HEW.out.trans' hEY)
       rw [Nat.zero_add] at d0
       obtain ⟨r, hr⟩ : ∃ r, r = gt L i := ⟨_, rfl⟩
       rw [← hr] at d0
       obtain ⟨d, hd⟩ : ∃ d, d = digW way i := ⟨_, rfl⟩
       have hd3 : d < 3 := by rw [hd]; exact digW_lt _ _
       have hdR : R % 3 = d := by rw [hd, hR]; rfl
       have hmt : Int.tmod (R : Int) 3 = (d : Int) := by rw [Int.tmod_eq_emod_of_nonneg (by omega), ← hdR]; rfl
       obtain ⟨R3, hR3⟩ : ∃ R3, R3 = R / 3 := ⟨_, rfl⟩
       have hmq : Int.tdiv (R : Int) 3 = (R3 : Int) := by rw [Int.tdiv_eq_ediv_of_nonneg (by omega), hR3]; rfl
       have hmq2 : (R : Int) / 3 = (R3 : Int) := by rw [hR3]; rfl
       have hmq3 : IntKind.i64.wrap (R3 : Int) = (R3 : Int) := IntWalk.i64_in _ (by omega)
       have HR3 := Lib.hid hR3
       have HLEN : Hid (((grpR L (digW way) d i).map iRow).length + [[Value.int .i64 r]].length ≤ 1000000) := Lib.hid (by
        have := grpR_len L (digW way) d i
        simp; omega)
       obtain ⟨xa, xn, xc, hx⟩ := (hG.own d hd3).isSlice
       have hcg := hG.cell d hd3
       have hfr := hG.free d
       have hgl := hG.lt
       rw [hx] at hcg
       have HX := Lib.hid hx
       have HOWN := Lib.hid (hG.own d hd3)
       rw [hx] at HOWN
       have HRR := Lib.hid hr
       have HDD := Lib.hid hd
       have hdi : (d : Int) < 3 := by omega
       have hywr := hEY.size
       clear hG hEY hR hx hr hd hdR hcl hR3
       go_upto_region 18 with (fail)
       refine wp_region_rove_tail rfl rfl (by kernel_rfl) (Y.heap.size) (by omega)
        [sqV (.slice (some ⟨gb, 0, none⟩) 3 3), sqV (.int .i64 R), sqV (.int .i64 d), sqV (.slice (some ⟨gb, 0, none⟩) 3 3), sqV (.int .i64 R), sqV (.int .i64 d), sqV (.pointer (some ⟨gb, d, none⟩)), sqV (.slice xa xn xc), sqV (.slice (some ⟨lb, 0, none⟩) L.length lc), sqV (.int .i64 i), sqV (.pointer (some ⟨lb, i, none⟩)), sqV (.int .i64 r), sqW (fun v W => ∃ b, v = .slice (some ⟨b, 0, none⟩) 1 1 ∧ RowsAt W 1 b 0 ([[Value.int .i64 r]])) (fun _ _ _ ⟨b, h1, h2⟩ e => ⟨b, h1, h2.ext e⟩), sqW (fun v W => Owns W Y.heap.size 3 1 v ((grpR L (digW way) d i).map iRow ++ [[.int .i64 r]]) ∧ Kept (fun k => some k ≠ (Value.slice xa xn xc).ownBlock) wr W ∧ ∀ g, v.ownBlock = some g → (Value.slice xa xn xc).ownBlock = some g ∨ wr.heap.size ≤ g) (fun _ _ _ ⟨h1, h2, h3⟩ e => ⟨h1.ext e, h2.trans (.of_below e), h3⟩), sqV (.pointer (some ⟨gb, d, none⟩))]
        [true, true, true, true, true, true, true, true, true, true, true, true, false, false, true] [false, false, false, false, false, false, false, false, false, false, false, false, false, true, false] [true, true, true, true, true, true, true, true, true, true, true, true, false, true, true] [false, false, false, true, true, true, true, true, true, true, true, true, true, true, false]
        (by kernel_rfl) (by kernel_rfl) (by decide +kernel) (by decide +kernel) (by decide +kernel) rfl ⟨rfl, rfl⟩ ⟨?s0, ?s1, ?s2, ?s3, ?s4, ?s5, ?s6, ?s7, ?s8, ?s9, ?s10, ?s11, ?s12, ?s13, ?s14, trivial⟩ [some 45, some 46, some 47, some 48, some 49, some 50, some 51, some 52, some 53, some 54, some 55, some 56, some 57, some 58, some 59] rfl rfl ?send
       case s0 =>
        intro val ρ W hE hz hd hA hx
        have o0 : ρ (.tmp 10) = .slice (some ⟨gb, 0, none⟩) 3 3 := hA.old 10 (by decide)
        clear hd
        exact runq_val (W' := W) (by simp [execOp, o0, go_sem]) (Below.refl _ _) rfl
       case s1 =>
        intro val ρ W hE hz hd hA hx
        have o0 : ρ (.tmp 11) = .int .i64 R := hA.old 11 (by decide)
        clear hd
        exact runq_val (W' := W) (by simp [execOp, o0, go_sem]) (Below.refl _ _) rfl
       case s2 =>
        intro val ρ W hE hz hd hA hx
        have d1 : ρ (.tmp 46) = .int .i64 R := (hA.dep 1 (by decide) 46 rfl).trans (hd 1 (by decide))
        clear hd
        exact runq_val (W' := W) (by simp [execOp, hA.const, d1, hmt, go_sem]) (Below.refl _ _) rfl
       case s3 =>
        intro val ρ W hE hz hd hA hx
        have o0 : ρ (.tmp 10) = .slice (some ⟨gb, 0, none⟩) 3 3 := hA.old 10 (by decide)
        clear hd
        exact runq_val (W' := W) (by simp [execOp, o0, go_sem]) (Below.refl _ _) rfl
       case s4 =>
        intro val ρ W hE hz hd hA hx
        have o0 : ρ (.tmp 11) = .int .i64 R := hA.old 11 (by decide)
        clear hd
        exact runq_val (W' := W) (by simp [execOp, o0, go_sem]) (Below.refl _ _) rfl
       case s5 =>
        intro val ρ W hE hz hd hA hx
        have d4 : ρ (.tmp 49) = .int .i64 R := (hA.dep 4 (by decide) 49 rfl).trans (hd 4 (by decide))
        clear hd
        exact runq_val (W' := W) (by simp [execOp, hA.const, d4, hmt, go_sem]) (Below.refl _ _) rfl
       case s6 =>
        intro val ρ W hE hz hd hA hx
        have d3 : ρ (.tmp 48) = .slice (some ⟨gb, 0, none⟩) 3 3 := (hA.dep 3 (by decide) 48 rfl).trans (hd 3 (by decide))
        have d5 : ρ (.tmp 50) = .int .i64 d := (hA.dep 5 (by decide) 50 rfl).trans (hd 5 (by decide))
        clear hd
        exact runq_val (W' := W) (by simp [execOp, d3, d5, hdi, go_sem]) (Below.refl _ _) rfl
       case s7 =>
        intro val ρ W hE hz hd hA hx
        have d6 : ρ (.tmp 51) = .pointer (some ⟨gb, d, none⟩) := (hA.dep 6 (by decide) 51 rfl).trans (hd 6 (by decide))
        have f_hcg := cell_ext (hx (by decide)) hcg
        clear hd
        exact runq_val (W' := W) (by simp [execOp, d6, f_hcg, go_sem]) (Below.refl _ _) rfl
       case s8 =>
        intro val ρ W hE hz hd hA hx
        have o0 : ρ (.tmp 4) = .slice (some ⟨lb, 0, none⟩) L.length lc := hA.old 4 (by decide)
        clear hd
        exact runq_val (W' := W) (by simp [execOp, o0, go_sem]) (Below.refl _ _) rfl
       case s9 =>
        intro val ρ W hE hz hd hA hx
        have o0 : ρ (.tmp 12) = .int .i64 i := hA.old 12 (by decide)
        clear hd
        exact runq_val (W' := W) (by simp [execOp, o0, go_sem]) (Below.refl _ _) rfl
       case s10 =>
        intro val ρ W hE hz hd hA hx
        have d8 : ρ (.tmp 53) = .slice (some ⟨lb, 0, none⟩) L.length lc := (hA.dep 8 (by decide) 53 rfl).trans (hd 8 (by decide))
        have d9 : ρ (.tmp 54) = .int .i64 i := (hA.dep 9 (by decide) 54 rfl).trans (hd 9 (by decide))
        clear hd
        exact runq_val (W' := W) (by simp [execOp, d8, d9, hii, go_sem]) (Below.refl _ _) rfl
       case s11 =>
        intro val ρ W hE hz hd hA hx
        have d10 : ρ (.tmp 55) = .pointer (some ⟨lb, i, none⟩) := (hA.dep 10 (by decide) 55 rfl).trans (hd 10 (by decide))
        have f_d0 := cell_ext (hx (by decide)) d0
        clear hd
        exact runq_val (W' := W) (by simp [execOp, d10, f_d0, go_sem]) (Below.refl _ _) rfl
       case s12 =>
        intro val ρ W hE hz hd hA hx
        have d11 : ρ (.tmp 56) = .int .i64 r := (hA.dep 11 (by decide) 56 rfl).trans (hd 11 (by decide))
        clear hd hA
        refine runq_val (by simp [execOp, d11, go_sem]; exact ⟨rfl, rfl⟩) (by exact xx) ⟨_, rfl, newRows _ ([[Value.int .i64 r]]) _ _ _ 1 rfl (by simp) (by simp)⟩
       case s14 =>
        intro val ρ W hE hz hd hA hx
        have d0 : ρ (.tmp 45) = .slice (some ⟨gb, 0, none⟩) 3 3 := (hA.dep 0 (by decide) 45 rfl).trans (hd 0 (by decide))
        have d2 : ρ (.tmp 47) = .int .i64 d := (hA.dep 2 (by decide) 47 rfl).trans (hd 2 (by decide))
        clear hd
        exact runq_val (W' := W) (by simp [execOp, d0, d2, hdi, go_sem]) (Below.refl _ _) rfl
       case s13 =>
        intro val ρ W hE hz hd hA hx
        have hW := hx (by decide)
        have d7 : ρ (.tmp 52) = .slice xa xn xc := (hA.dep 7 (by decide) 52 rfl).trans (hd 7 (by decide))
        obtain ⟨b', e12, h12⟩ : ∃ b', val 12 = .slice (some ⟨b', 0, none⟩) 1 1 ∧ RowsAt W 1 b' 0 [[Value.int .i64 r]] := hd 12 (by decide)
        have d12 : ρ (.tmp 57) = .slice (some ⟨b', 0, none⟩) 1 1 := (hA.dep 12 (by decide) 57 rfl).trans e12
        have ho := HOWN.out.ext hW
        obtain ⟨v', w', hrun, h2, h3, h4⟩ := app_at elInt 23 Y.heap.size ho b' 0 1 [[Value.int .i64 r]] (by simp) h12 (by simp [Value.oneCell']) HLEN.out (by have := hW.size; omega)
        exact runq_append (.tmp 52) (.tmp 57) rfl rfl _ _ d7 d12 hrun (ho.keptBelow (by have := hW.size; omega) h3) ⟨h2, (Kept.of_below hW).trans h3, fun g hg => (h4 g hg).imp id fun h => Nat.le_trans hW.size h⟩
       case send =>
        intro val W4 hE hzz hv
        obtain ⟨-, -, -, -, -, -, -, -, -, -, -, -, -, ⟨r13, k13, o13⟩, r14, -⟩ := hv
        replace r13 : Owns W4 Y.heap.size 3 1 (val 13) ((grpR L (digW way) d i).map iRow ++ [[.int .i64 r]]) := r13
        have q14 : val 14 = .pointer (some ⟨gb, d, none⟩) := r14
        obtain ⟨va, vn, vc, e13⟩ := r13.isSlice
        rw [e13] at r13 o13
        have hput := HG.out.put hd3 (v' := .slice va vn vc) (l := grpR L (digW way) d i ++ [r]) (by simpa [iRow] using r13) (by rw [HX.out]; exact k13) (by rw [HX.out]; exact o13)
        rw [HRR.out, grpR_step L (digW way) i HDD.out.symm] at hput
        have hob := HOWN.out.notOwn
        have hk5 : Ext Y W4 := HEY.out.trans (Kept.below (k13.mono (T := fun k => k < Y.heap.size) fun k _ hk e => by have := hob k e.symm; omega) HEY.out.size)
        have hcl4 : W4.cell? ⟨gb, d, none⟩ = some (.slice xa xn xc) := by
         have := k13.cell (HG.out.cell d hd3) (fun e => HG.out.other (j := d) hd3 (by rw [HX.out]; exact e.symm))
         rw [this, HX.out]
        have hfr4 : W4.frozen? ⟨gb, d, none⟩ = false := by
         obtain ⟨cur, q1, _⟩ := HG.out.blk
         have q2 := (k13.same gb HG.out.lt (fun e => HG.out.other (j := d) hd3 (by rw [HX.out]; exact e.symm))).trans q1
         simp [World.frozen?, q2]
        have HPUT := Lib.hid hput
        have HK5 := Lib.hid hk5
        have hgl4 : gb < W4.heap.size := by have := k13.size; omega
        have HRD : Hid (R3 = way / 3 ^ (i + 1)) := Lib.hid (by rw [HR3.out, HR.out, Nat.pow_succ, Nat.div_div_eq_div_mul])
        simp only [putD, e13, q14]
        go_frame
        clear hE hzz r13 k13 o13 r14 q14 e13 hput hob hk5 hcg hfr d0
        go_wp2_with fail
        go_roundw
        case rel => exact ⟨i + 1, R3, _, by omega, by go_num, by go_num, HRD.out, HPUT.out, HK5.out.setCell (by show Y.heap.size ≤ gb; omega) _⟩
        case measure => simp [intOf]; omega
      ·have hii : ¬ ((i : Int) < (L.length : Int)) := by omega
       have hie : i = L.length := by omega
       have hG2 : GrpM wr Y.heap.size gb vs (fun k => grpQ L (digW way) k) := by rw [hie] at hG; exact hG
       obtain ⟨Wg, rfl⟩ : ∃ Wg, Wg = wr := ⟨_, rfl⟩
       obtain ⟨s0, cc0, hx0, -, -, -⟩ := (hG2.own 0 (by omega)).oneInts.spec
       obtain ⟨s1, cc1, hx1, -, -, -⟩ := (hG2.own 1 (by omega)).oneInts.spec
       obtain ⟨s2, cc2, hx2, -, -, -⟩ := (hG2.own 2 (by omega)).oneInts.spec
       have g0 := hG2.cell 0 (by omega)
       have g1 := hG2.cell 1 (by omega)
       have g2 := hG2.cell 2 (by omega)
       have hgl := hG2.lt
       rw [hx0] at g0
       rw [hx1] at g1
       rw [hx2] at g2
       obtain ⟨a0, ha0⟩ : ∃ a, a = (grpQ L (digW way) 0).length := ⟨_, rfl⟩
       obtain ⟨a1, ha1⟩ : ∃ a, a = (grpQ L (digW way) 1).length := ⟨_, rfl⟩
       obtain ⟨a2, ha2⟩ : ∃ a, a = (grpQ L (digW way) 2).length := ⟨_, rfl⟩
       rw [← ha0] at g0
       rw [← ha1] at g1
       rw [← ha2] at g2
       have HKQ : Hid (keptQ L (digW way) = (!decide (a0 = 0) && !(decide (a1 = 0) && !decide (a2 = 0)))) := Lib.hid (by
        have hl : ∀ l : List Int, l.isEmpty = decide (l.length = 0) := fun l => by cases l <;> simp
        unfold keptQ
        rw [hl, hl, hl, ha0, ha1, ha2])
       have HFQ : Hid (keptQ L (digW way) = true → finQ L (digW way) = (if a2 = 0 then (if a1 = 0 then [grpQ L (digW way) 0] else [grpQ L (digW way) 0, grpQ L (digW way) 1]) else [grpQ L (digW way) 0, grpQ L (digW way) 1, grpQ L (digW way) 2])) := Lib.hid fun h => by
        have hl : ∀ l : List Int, l.isEmpty = decide (l.length = 0) := fun l => by cases l <;> simp
        rw [finQ_cut h, hl, hl, ← ha1, ← ha2]
        simp only [decide_eq_true_eq]
       have HGM := Lib.hid hG2
       have hro := HRW.out.ext hEY
       have HROG := Lib.hid hro
       have hzOg := hro.lt
       have hEg := hEY.size
       clear hG hG2 hEY hR hie hii hi2 hx0 hx1 hx2 ha0 ha1 ha2 hro HR hRw
       by_cases z2 : a2 = 0
       ·have f2 : ((a2 : Int) == 0) = true := by rw [beq_iff_eq]; omega
        have p2 : decide ((0 : Int) < (a2 : Int)) = false := decide_eq_false (by omega)
        have p2' : decide (0 < a2) = false := decide_eq_false (by omega)
        by_cases z1 : a1 = 0
        ·have f1 : ((a1 : Int) == 0) = true := by rw [beq_iff_eq]; omega
         by_cases z0 : a0 = 0
         ·have f0 : ((a0 : Int) == 0) = true := by rw [beq_iff_eq]; omega
          have HNK : Hid (¬ keptQ L (digW way) = true) := Lib.hid (by rw [HKQ.out]; simp [z0])
          clear z0 z1 z2
          go_wp2_with fail
          go_roundw
          case rel => exact ⟨way + 1, c, lo, hi, S, by omega, by go_num, rfl, HC.out, by rw [waysP_succ, ← HLL.out, if_neg HNK.out, List.append_nil]; exact HSS.out, HLO.out, HHI.out, HROG.out, HKP.out.trans ((Kept.of_below HEY.out).mono fun g hg _ => hg)⟩
          case measure => simp [intOf]; omega
         ·have f0 : ((a0 : Int) == 0) = false := by rw [beq_eq_false_iff_ne]; omega
          have HK1 : Hid (keptQ L (digW way) = true) := Lib.hid (by rw [HKQ.out]; simp [z0, z2])
          have HFS : Hid (finsOf ((grpPs vs fun k => grpQ L (digW way) k).take 1) = finQ L (digW way)) := Lib.hid (by rw [HFQ.out HK1.out, if_pos z2, if_pos z1]; rfl)
          clear z0 z1 z2
          have HFV : Hid (FinV b (finsOf ((grpPs vs fun k => grpQ L (digW way) k).take 1))) := Lib.hid (by rw [HFS.out, HLL.out]; exact finQ_val V.out ((kept_iff fun i => digW_lt way i).1 (by rw [← HLL.out]; exact HK1.out)))
          obtain ⟨A, hA⟩ : ∃ A, A = accA b (finQ L (digW way)) := ⟨_, rfl⟩
          have t1 := fun W h1 h2 => accOf_any ((grpPs vs fun k => grpQ L (digW way) k).take 1) (.slice (some ⟨gb, 0, none⟩) 1 3) b ba sa bcap scap W h1 h2 HFV.out
          rw [HFS.out, ← hA] at t1
          simp only [accV, accC] at t1
          have T1 := Lib.hid t1
          have hfld : ∀ W, (Instr.field 48 (.agg #[.int .i64 A.i, .int .i64 A.k, .int .i64 A.d, .int .i64 A.p, .int .i64 A.q, .int .i64 A.o]) 3).run Try.prog W = .ok (.int .i64 A.p) W := fun _ => by kernel_rfl
          have HSN : Hid (S ++ [A.p] = waysP b (way + 1)) := Lib.hid (by rw [waysP_succ, ← HLL.out, if_pos HK1.out, ← HSS.out, hA])
          have hbk := HBKU.out.ext (HEW.out.trans' HEY.out)
          have k0 := (hbk).c0
          have k1 := (hbk).c1
          have k2 := (hbk).c2
          have k3 := (hbk).c3
          have k4 := (hbk).c4
          have k5 := (hbk).c5
          have k6 := (hbk).c6
          have k7 := (hbk).c7
          have hz := (hbk).lt
          clear t1 hA hbk
          go_wp2_with fail
          refine (T1.out _ (HS.out.ext (HEW.out.trans' (HEY.out.trans' (by exact xx)))) ((HGM.out.finT (by omega)).ext (by exact xx))).mono ?_
          rintro e W5 ⟨rfl, hE5⟩
          have hro5 := HROG.out.ext hE5
          have c0 := hro5.c0
          have c1 := hro5.c1
          have cf := fun o => hro5.fr o
          have cz := hro5.lt
          have HRO5 := Lib.hid hro5
          have HK5 : Hid (Kept (fun g => g < X.heap.size ∧ g ≠ O) X W5) := Lib.hid (HKP.out.trans ((Kept.of_below (HEY.out.trans' hE5)).mono fun g hg _ => hg))
          clear hE5 hro5 k0 k1 k2 k3 k4 k5 k6 k7 hz g0 g1 g2
          cases c
          ·have HS0 : Hid (S = []) := Lib.hid (by
            have := HC.out
            simpa using this)
           have HL1 : Hid (A.p = loS (S ++ [A.p])) := Lib.hid (by rw [lo_snoc, if_pos HS0.out])
           have HH1 : Hid (A.p = hiS (S ++ [A.p])) := Lib.hid (by rw [hi_snoc, if_pos HS0.out])
           go_wp2_with fail
           go_roundw
           case rel => exact ⟨way + 1, true, A.p, A.p, S ++ [A.p], by omega, by go_num, rfl, by simp, HSN.out, HL1.out, HH1.out, (HRO5.out.set _ _).set _ _, (((HK5.out.setCell (fun _ h => h.2 rfl) _).setCell (fun _ h => h.2 rfl) _).setCell (fun _ h => h.2 rfl) _).setCell (fun _ h => h.2 rfl) _⟩
           case measure => simp [intOf]; omega
          ·have HS0 : Hid (S ≠ []) := Lib.hid (HC.out.1 rfl)
           have HL1 : Hid (min lo A.p = loS (S ++ [A.p])) := Lib.hid (by rw [lo_snoc, if_neg HS0.out, ← HLO.out])
           have HH1 : Hid (max hi A.p = hiS (S ++ [A.p])) := Lib.hid (by rw [hi_snoc, if_neg HS0.out, ← HHI.out])
           go_wp2_with fail
           go_roundw
           case rel => exact ⟨way + 1, true, min lo A.p, max hi A.p, S ++ [A.p], by omega, by go_num, rfl, by simp, HSN.out, HL1.out, HH1.out, HRO5.out.set _ _, (HK5.out.setCell (fun _ h => h.2 rfl) _).setCell (fun _ h => h.2 rfl) _⟩
           case measure => simp [intOf]; omega
        ·have f1 : ((a1 : Int) == 0) = false := by rw [beq_eq_false_iff_ne]; omega
         by_cases z0 : a0 = 0
         ·have f0 : ((a0 : Int) == 0) = true := by rw [beq_iff_eq]; omega
          have HNK : Hid (¬ keptQ L (digW way) = true) := Lib.hid (by rw [HKQ.out]; simp [z0])
          clear z0 z1 z2
          go_wp2_with fail
          go_roundw
          case rel => exact ⟨way + 1, c, lo, hi, S, by omega, by go_num, rfl, HC.out, by rw [waysP_succ, ← HLL.out, if_neg HNK.out, List.append_nil]; exact HSS.out, HLO.out, HHI.out, HROG.out, HKP.out.trans ((Kept.of_below HEY.out).mono fun g hg _ => hg)⟩
          case measure => simp [intOf]; omega
         ·have f0 : ((a0 : Int) == 0) = false := by rw [beq_eq_false_iff_ne]; omega
          have HK1 : Hid (keptQ L (digW way) = true) := Lib.hid (by rw [HKQ.out]; simp [z0, z1])
          have HFS : Hid (finsOf ((grpPs vs fun k => grpQ L (digW way) k).take 2) = finQ L (digW way)) := Lib.hid (by rw [HFQ.out HK1.out, if_pos z2, if_neg z1]; rfl)
          clear z0 z1 z2
          have HFV : Hid (FinV b (finsOf ((grpPs vs fun k => grpQ L (digW way) k).take 2))) := Lib.hid (by rw [HFS.out, HLL.out]; exact finQ_val V.out ((kept_iff fun i => digW_lt way i).1 (by rw [← HLL.out]; exact HK1.out)))
          obtain ⟨A, hA⟩ : ∃ A, A = accA b (finQ L (digW way)) := ⟨_, rfl⟩
          have t1 := fun W h1 h2 => accOf_any ((grpPs vs fun k => grpQ L (digW way) k).take 2) (.slice (some ⟨gb, 0, none⟩) 2 3) b ba sa bcap scap W h1 h2 HFV.out
          rw [HFS.out, ← hA] at t1
          simp only [accV, accC] at t1
          have T1 := Lib.hid t1
          have hfld : ∀ W, (Instr.field 48 (.agg #[.int .i64 A.i, .int .i64 A.k, .int .i64 A.d, .int .i64 A.p, .int .i64 A.q, .int .i64 A.o]) 3).run Try.prog W = .ok (.int .i64 A.p) W := fun _ => by kernel_rfl
          have HSN : Hid (S ++ [A.p] = waysP b (way + 1)) := Lib.hid (by rw [waysP_succ, ← HLL.out, if_pos HK1.out, ← HSS.out, hA])
          have hbk := HBKU.out.ext (HEW.out.trans' HEY.out)
          have k0 := (hbk).c0
          have k1 := (hbk).c1
          have k2 := (hbk).c2
          have k3 := (hbk).c3
          have k4 := (hbk).c4
          have k5 := (hbk).c5
          have k6 := (hbk).c6
          have k7 := (hbk).c7
          have hz := (hbk).lt
          clear t1 hA hbk
          go_wp2_with fail
          refine (T1.out _ (HS.out.ext (HEW.out.trans' (HEY.out.trans' (by exact xx)))) ((HGM.out.finT (by omega)).ext (by exact xx))).mono ?_
          rintro e W5 ⟨rfl, hE5⟩
          have hro5 := HROG.out.ext hE5
          have c0 := hro5.c0
          have c1 := hro5.c1
          have cf := fun o => hro5.fr o
          have cz := hro5.lt
          have HRO5 := Lib.hid hro5
          have HK5 : Hid (Kept (fun g => g < X.heap.size ∧ g ≠ O) X W5) := Lib.hid (HKP.out.trans ((Kept.of_below (HEY.out.trans' hE5)).mono fun g hg _ => hg))
          clear hE5 hro5 k0 k1 k2 k3 k4 k5 k6 k7 hz g0 g1 g2
          cases c
          ·have HS0 : Hid (S = []) := Lib.hid (by
            have := HC.out
            simpa using this)
           have HL1 : Hid (A.p = loS (S ++ [A.p])) := Lib.hid (by rw [lo_snoc, if_pos HS0.out])
           have HH1 : Hid (A.p = hiS (S ++ [A.p])) := Lib.hid (by rw [hi_snoc, if_pos HS0.out])
           go_wp2_with fail
           go_roundw
           case rel => exact ⟨way + 1, true, A.p, A.p, S ++ [A.p], by omega, by go_num, rfl, by simp, HSN.out, HL1.out, HH1.out, (HRO5.out.set _ _).set _ _, (((HK5.out.setCell (fun _ h => h.2 rfl) _).setCell (fun _ h => h.2 rfl) _).setCell (fun _ h => h.2 rfl) _).setCell (fun _ h => h.2 rfl) _⟩
           case measure => simp [intOf]; omega
          ·have HS0 : Hid (S ≠ []) := Lib.hid (HC.out.1 rfl)
           have HL1 : Hid (min lo A.p = loS (S ++ [A.p])) := Lib.hid (by rw [lo_snoc, if_neg HS0.out, ← HLO.out])
           have HH1 : Hid (max hi A.p = hiS (S ++ [A.p])) := Lib.hid (by rw [hi_snoc, if_neg HS0.out, ← HHI.out])
           go_wp2_with fail
           go_roundw
           case rel => exact ⟨way + 1, true, min lo A.p, max hi A.p, S ++ [A.p], by omega, by go_num, rfl, by simp, HSN.out, HL1.out, HH1.out, HRO5.out.set _ _, (HK5.out.setCell (fun _ h => h.2 rfl) _).setCell (fun _ h => h.2 rfl) _⟩
           case measure => simp [intOf]; omega
       ·have f2 : ((a2 : Int) == 0) = false := by rw [beq_eq_false_iff_ne]; omega
        have p2 : decide ((0 : Int) < (a2 : Int)) = true := decide_eq_true (by omega)
        have p2' : decide (0 < a2) = true := decide_eq_true (by omega)
        by_cases z0 : a0 = 0
        ·have f0 : ((a0 : Int) == 0) = true := by rw [beq_iff_eq]; omega
         have HNK : Hid (¬ keptQ L (digW way) = true) := Lib.hid (by rw [HKQ.out]; simp [z0])
         clear z0 z2
         go_wp2_with fail
         go_roundw
         case rel => exact ⟨way + 1, c, lo, hi, S, by omega, by go_num, rfl, HC.out, by rw [waysP_succ, ← HLL.out, if_neg HNK.out, List.append_nil]; exact HSS.out, HLO.out, HHI.out, HROG.out, HKP.out.trans ((Kept.of_below HEY.out).mono fun g hg _ => hg)⟩
         case measure => simp [intOf]; omega
        ·have f0 : ((a0 : Int) == 0) = false := by rw [beq_eq_false_iff_ne]; omega
         by_cases z1 : a1 = 0
         ·have f1 : ((a1 : Int) == 0) = true := by rw [beq_iff_eq]; omega
          have HNK : Hid (¬ keptQ L (digW way) = true) := Lib.hid (by rw [HKQ.out]; simp [z1, z2])
          clear z0 z1
          go_wp2_with fail
          go_roundw
          case rel => exact ⟨way + 1, c, lo, hi, S, by omega, by go_num, rfl, HC.out, by rw [waysP_succ, ← HLL.out, if_neg HNK.out, List.append_nil]; exact HSS.out, HLO.out, HHI.out, HROG.out, HKP.out.trans ((Kept.of_below HEY.out).mono fun g hg _ => hg)⟩
          case measure => simp [intOf]; omega
         ·have f1 : ((a1 : Int) == 0) = false := by rw [beq_eq_false_iff_ne]; omega
          have HK1 : Hid (keptQ L (digW way) = true) := Lib.hid (by rw [HKQ.out]; simp [z0, z1])
          have HFS : Hid (finsOf ((grpPs vs fun k => grpQ L (digW way) k).take 3) = finQ L (digW way)) := Lib.hid (by rw [HFQ.out HK1.out, if_neg z2]; rfl)
          clear z0 z1 z2
          have HFV : Hid (FinV b (finsOf ((grpPs vs fun k => grpQ L (digW way) k).take 3))) := Lib.hid (by rw [HFS.out, HLL.out]; exact finQ_val V.out ((kept_iff fun i => digW_lt way i).1 (by rw [← HLL.out]; exact HK1.out)))
          obtain ⟨A, hA⟩ : ∃ A, A = accA b (finQ L (digW way)) := ⟨_, rfl⟩
          have t1 := fun W h1 h2 => accOf_any ((grpPs vs fun k => grpQ L (digW way) k).take 3) (.slice (some ⟨gb, 0, none⟩) 3 3) b ba sa bcap scap W h1 h2 HFV.out
          rw [HFS.out, ← hA] at t1
          simp only [accV, accC] at t1
          have T1 := Lib.hid t1
          have hfld : ∀ W, (Instr.field 48 (.agg #[.int .i64 A.i, .int .i64 A.k, .int .i64 A.d, .int .i64 A.p, .int .i64 A.q, .int .i64 A.o]) 3).run Try.prog W = .ok (.int .i64 A.p) W := fun _ => by kernel_rfl
          have HSN : Hid (S ++ [A.p] = waysP b (way + 1)) := Lib.hid (by rw [waysP_succ, ← HLL.out, if_pos HK1.out, ← HSS.out, hA])
          have hbk := HBKU.out.ext (HEW.out.trans' HEY.out)
          have k0 := (hbk).c0
          have k1 := (hbk).c1
          have k2 := (hbk).c2
          have k3 := (hbk).c3
          have k4 := (hbk).c4
          have k5 := (hbk).c5
          have k6 := (hbk).c6
          have k7 := (hbk).c7
          have hz := (hbk).lt
          clear t1 hA hbk
          go_wp2_with fail
          refine (T1.out _ (HS.out.ext (HEW.out.trans' (HEY.out.trans' (by exact xx)))) ((HGM.out.finT (by omega)).ext (by exact xx))).mono ?_
          rintro e W5 ⟨rfl, hE5⟩
          have hro5 := HROG.out.ext hE5
          have c0 := hro5.c0
          have c1 := hro5.c1
          have cf := fun o => hro5.fr o
          have cz := hro5.lt
          have HRO5 := Lib.hid hro5
          have HK5 : Hid (Kept (fun g => g < X.heap.size ∧ g ≠ O) X W5) := Lib.hid (HKP.out.trans ((Kept.of_below (HEY.out.trans' hE5)).mono fun g hg _ => hg))
          clear hE5 hro5 k0 k1 k2 k3 k4 k5 k6 k7 hz g0 g1 g2
          cases c
          ·have HS0 : Hid (S = []) := Lib.hid (by
            have := HC.out
            simpa using this)
           have HL1 : Hid (A.p = loS (S ++ [A.p])) := Lib.hid (by rw [lo_snoc, if_pos HS0.out])
           have HH1 : Hid (A.p = hiS (S ++ [A.p])) := Lib.hid (by rw [hi_snoc, if_pos HS0.out])
           go_wp2_with fail
           go_roundw
           case rel => exact ⟨way + 1, true, A.p, A.p, S ++ [A.p], by omega, by go_num, rfl, by simp, HSN.out, HL1.out, HH1.out, (HRO5.out.set _ _).set _ _, (((HK5.out.setCell (fun _ h => h.2 rfl) _).setCell (fun _ h => h.2 rfl) _).setCell (fun _ h => h.2 rfl) _).setCell (fun _ h => h.2 rfl) _⟩
           case measure => simp [intOf]; omega
          ·have HS0 : Hid (S ≠ []) := Lib.hid (HC.out.1 rfl)
           have HL1 : Hid (min lo A.p = loS (S ++ [A.p])) := Lib.hid (by rw [lo_snoc, if_neg HS0.out, ← HLO.out])
           have HH1 : Hid (max hi A.p = hiS (S ++ [A.p])) := Lib.hid (by rw [hi_snoc, if_neg HS0.out, ← HHI.out])
           go_wp2_with fail
           go_roundw
           case rel => exact ⟨way + 1, true, min lo A.p, max hi A.p, S ++ [A.p], by omega, by go_num, rfl, by simp, HSN.out, HL1.out, HH1.out, HRO5.out.set _ _, (HK5.out.setCell (fun _ h => h.2 rfl) _).setCell (fun _ h => h.2 rfl) _⟩
           case measure => simp [intOf]; omega
    ·have hwi : ¬ ((way : Int) < (P : Int)) := by omega
     have hwe : way = P := by omega
     have hSN : S = waysP b (3 ^ (runL b).length) := by rw [hS, hwe, HPN.out, HLL.out]
     have hne : S ≠ [] := by rw [hSN]; exact HSP.out.1
     have e1 : sprLo b = lo := by
      unfold sprLo
      rw [if_pos H0.out, hlo]
      unfold loS
      rw [if_neg hne, hSN, HSP.out.2.1]
     have e2 : sprHi b = hi := by
      unfold sprHi
      rw [if_pos H0.out, hhi]
      unfold hiS
      rw [if_neg hne, hSN, HSP.out.2.2]
     have hz2 := HZU.out.ext hEw
     have c0 := hro.c0
     have c1 := hro.c1
     have cz := hro.lt
     have d0 := hz2.c0
     have d1 := hz2.c1
     have df := fun o => hz2.fr o
     have dz := hz2.lt
     have HL1 := Lib.hid e1
     have HH1 := Lib.hid e2
     have HFE := Lib.hid (HE2.out.trans' (HU.out.trans' hEw))
     clear hwe hSN hne e1 e2 hz2 hro hkp hEw hc hS hlo hhi
     go_wp2_with fail
     refine bodyPost_ret (v := .tuple #[.agg #[.int .i64 lo, .int .i64 hi], .int .i64 0]) (by simp [results, Try.results40, go_sem, d0, d1]) rfl ?_
     refine ⟨(HFE.out.setCell (p := ⟨w.heap.size + 1, 0, none⟩) (Nat.le_succ _) _).setCell (p := ⟨w.heap.size + 1, 1, none⟩) (Nat.le_succ _) _, ?_⟩
     rw [HL1.out, HH1.out, H0.out]
end Go.Proofs.Ytphajlldghcnnaa
