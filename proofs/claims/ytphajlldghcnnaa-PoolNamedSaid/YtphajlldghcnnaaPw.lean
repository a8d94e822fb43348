/-
 The reference: Units.
 The reference: Net.
 The reference: Share, DividendsOf, Dividends.
 The reference: DividendsOf, Dividends.
 The reference: AccountOf, Account.
 The reference: Account, Pay.
-/
import Derived.Test.YtphajlldghcnnaaPs
import Derived.Test.YtphajlldghcnnaaPj
import Derived.Test.YtphajlldghcnnaaPm
namespace Go.Proofs.Ytphajlldghcnnaa
open Go.RowKit Go.Shelf
def TwoP (B : Nat) (v : Value) (W : World) : Prop := ∃ q, v = .pointer (some ⟨q, 0, none⟩) ∧ B ≤ q ∧ W.heap[q]? = some (.cells #[.int .i64 0, .int .i64 0] 71 (0, 0))
def TwoI (W : World) (g : Nat) (a b : Int) : Prop := W.heap[g]? = some (.cells #[.int .i64 a, .int .i64 b] 71 (0, 0))
theorem TwoI.lt {W : World} {g : Nat} {a b : Int} (h : TwoI W g a b) : g < W.heap.size := (Array.getElem?_eq_some_iff.1 h).1
theorem TwoI.ext {W W' : World} {g : Nat} {a b : Int} (h : TwoI W g a b) (e : Ext W W') : TwoI W' g a b := (e.block _ h.lt).trans h
theorem TwoI.c0 {W : World} {g : Nat} {a b : Int} (h : TwoI W g a b) : W.cell? ⟨g, 0, none⟩ = some (.int .i64 a) := by rw [cell_of_row _ _ _ _ _ _ h]; rfl
theorem TwoI.c1 {W : World} {g : Nat} {a b : Int} (h : TwoI W g a b) : W.cell? ⟨g, 1, none⟩ = some (.int .i64 b) := by rw [cell_of_row _ _ _ _ _ _ h]; rfl
theorem TwoP.ext {B : Nat} {v : Value} {w w' : World} (e : Ext w w') (h : TwoP B v w) : TwoP B v w' := by
 obtain ⟨q, h1, h2, h3⟩ := h
 exact ⟨q, h1, h2, (e.block q (Array.getElem?_eq_some_iff.1 h3).1).trans h3⟩
theorem on_units {b : Bk} {x : PB} {s : Spt} {p q : Int} {o : Bool} (h : onRE b x = .tuple #[.agg #[.int .i64 p, .int .i64 q], .bool o]) : unitsG b s x = if o = true ∧ p = s.1 ∧ q = s.2 then x.u else 0 := by
 unfold onRE onRV at h
 unfold unitsG
 obtain ⟨s1, s2⟩ := s
 cases ho : onP b x with
 | none =>
  rw [ho] at h
  simp at h
  rw [if_neg (by simp), if_neg (fun hh => by have h2 := h.2; have h1 := hh.1; simp_all)]
 | some t =>
  rw [ho] at h
  simp at h
  obtain ⟨⟨h1, h2⟩, h3⟩ := h
  obtain ⟨t1, t2⟩ := t
  simp only at h1 h2
  subst h1 h2 h3
  simp
theorem on_shape (b : Bk) (x : PB) : ∃ p q o, onRE b x = .tuple #[.agg #[.int .i64 p, .int .i64 q], .bool o] := ⟨_, _, _, rfl⟩
set_option maxRecDepth 100000 in
set_option maxHeartbeats 8000000 in
theorem unitsR_any (s : Spt) (b : Bk) (ba sa : Option Addr) (bcap scap : Nat) (w : World) (hv : IsBook w b ba bcap sa scap) (v : BVal b) :
  Calls Try.prog 47 #[.agg #[.int .i64 b.kd, .int .i64 b.n, .slice ba b.bets.length bcap, .slice sa b.scr.length scap, .bool b.fav, .int .i64 b.car, .int .i64 b.duty, .int .i64 b.step], .agg #[.int .i64 s.1, .int .i64 s.2]] w fun e w' => e = .returned (.int .i64 (unitsP b s)) ∧ Ext w w' := by
 have HV := Lib.hid hv
 have V := Lib.hid v
 obtain ⟨⟨m1, m2⟩, -⟩ := hv.caps
 clear hv v
 obtain ⟨s1, s2⟩ := s
 simp only
 go_enter Try.func47, Try.ntmps47
 go_upto_region 1 with (fail)
 obtain ⟨W0, hW0⟩ : ∃ W0, W0 = (w.alloc (.cells #[.int .i64 b.kd, .int .i64 b.n, .slice ba b.bets.length bcap, .slice sa b.scr.length scap, .bool b.fav, .int .i64 b.car, .int .i64 b.duty, .int .i64 b.step] 25)).alloc (.cells #[.int .i64 s1, .int .i64 s2] 71) := ⟨_, rfl⟩
 have hE : Ext w W0 := by rw [hW0]; exact xx
 have k0 : W0.cell? ⟨w.heap.size, 0, none⟩ = some (.int .i64 b.kd) := by rw [hW0]; simp [go_sem]
 have k1 : W0.cell? ⟨w.heap.size, 1, none⟩ = some (.int .i64 b.n) := by rw [hW0]; simp [go_sem]
 have k2 : W0.cell? ⟨w.heap.size, 2, none⟩ = some (.slice ba b.bets.length bcap) := by rw [hW0]; simp [go_sem]
 have k3 : W0.cell? ⟨w.heap.size, 3, none⟩ = some (.slice sa b.scr.length scap) := by rw [hW0]; simp [go_sem]
 have k4 : W0.cell? ⟨w.heap.size, 4, none⟩ = some (.bool b.fav) := by rw [hW0]; simp [go_sem]
 have k5 : W0.cell? ⟨w.heap.size, 5, none⟩ = some (.int .i64 b.car) := by rw [hW0]; simp [go_sem]
 have k6 : W0.cell? ⟨w.heap.size, 6, none⟩ = some (.int .i64 b.duty) := by rw [hW0]; simp [go_sem]
 have k7 : W0.cell? ⟨w.heap.size, 7, none⟩ = some (.int .i64 b.step) := by rw [hW0]; simp [go_sem]
 have t0 : W0.cell? ⟨w.heap.size + 1, 0, none⟩ = some (.int .i64 s1) := by rw [hW0]; simp [go_sem]
 have t1 : W0.cell? ⟨w.heap.size + 1, 1, none⟩ = some (.int .i64 s2) := by rw [hW0]; simp [go_sem]
 rw [← hW0]
 have HS := Lib.hid (HV.out.ext hE)
 have HW := Lib.hid hE
 clear hW0 hE HV
 go_wp2_with fail
 go_loopw [5, 6] (fun nv iv W => ∃ (k : Nat) (n : Int), k ≤ b.bets.length ∧ iv = .int .i64 k ∧ nv = .int .i64 n ∧ n = sumB (unitsG b (s1, s2)) (b.bets.take k) ∧ Ext W0 W) (fun _ iv _ => b.bets.length - (intOf iv).toNat)
 case atStart => exact ⟨0, 0, by omega, rfl, rfl, by simp [sumB], Below.refl _ _⟩
 case round =>
  obtain ⟨k, n, hk, rfl, rfl, hn, hE⟩ := hrel
  have HN := Lib.hid hn
  have HE := Lib.hid hE
  have hbd := units_bd V.out (s1, s2) k
  rw [← hn] at hbd
  replace k0 := cell_ext hE k0
  replace k1 := cell_ext hE k1
  replace k2 := cell_ext hE k2
  replace k3 := cell_ext hE k3
  replace k4 := cell_ext hE k4
  replace k5 := cell_ext hE k5
  replace k6 := cell_ext hE k6
  replace k7 := cell_ext hE k7
  replace t0 := cell_ext hE t0
  replace t1 := cell_ext hE t1
  have hz := World.block_lt_of_cell? _ _ k0
  have hzt := World.block_lt_of_cell? _ _ t0
  simp only at hz hzt
  by_cases hlt : k < b.bets.length
  ·have hki : (k : Int) < (b.bets.length : Int) := by omega
   obtain ⟨bb, off, rfl, hc⟩ := bets_cell HS.out.bets hlt
   obtain ⟨⟨d0, d1, d2⟩, hzd⟩ := hc wr hE
   have htk := sumB_take (unitsG b (s1, s2)) hlt
   have hbd2 := units_bd V.out (s1, s2) (k + 1)
   obtain ⟨x, hx⟩ : ∃ x, x = b.bets[k] := ⟨_, rfl⟩
   rw [← hx] at d0 d1 d2 htk
   obtain ⟨p, q, o, hon⟩ := on_shape b x
   have hug := on_units (s := (s1, s2)) hon
   rw [hug] at htk
   rw [htk, ← hn] at hbd2
   rw [← hn] at htk
   have t9 := fun W h => onRef_any x b (some ⟨bb, off, none⟩) sa bcap scap W h V.out
   rw [hon] at t9
   have HON := Lib.hid t9
   have HTK := Lib.hid htk
   have HSW := Lib.hid (HS.out.ext hE)
   clear hn hE hc hx hon hug htk t9
   go_upto_region 5 with (fail)
   refine wp_region_rove (wr.heap.size) (Nat.le_refl _)
    [sqV (.agg #[.int .i64 b.kd, .int .i64 b.n, .slice (some ⟨bb, off, none⟩) b.bets.length bcap, .slice sa b.scr.length scap, .bool b.fav, .int .i64 b.car, .int .i64 b.duty, .int .i64 b.step]), sqV (.pointer (some ⟨w.heap.size, 2, none⟩)), sqV (.slice (some ⟨bb, off, none⟩) b.bets.length bcap), sqV (.int .i64 k), sqV (.pointer (some ⟨bb, off + k * 3, none⟩)), sqV (.agg #[.int .i64 x.f, .int .i64 x.s, .int .i64 x.u]), sqV (.tuple #[.agg #[.int .i64 p, .int .i64 q], .bool o]), sqV (.tuple #[.agg #[.int .i64 p, .int .i64 q], .bool o]), sqV (.agg #[.int .i64 p, .int .i64 q]), sqV (.bool o), sqW (fun v W => TwoP wr.heap.size v W) (fun _ _ _ h e => TwoP.ext e h), sqD [10] (fun l v W => ∃ g, l = [.pointer (some ⟨g, 0, none⟩)] ∧ wr.heap.size ≤ g ∧ TwoI W g p q) (fun _ _ _ _ ⟨g, h1, h2, h3⟩ e => ⟨g, h1, h2, h3.ext e⟩), sqV (.bool o)]
    [true, true, true, true, true, true, true, true, true, true, false, false, true] [false, false, false, false, false, false, false, false, false, false, false, true, false] [true, true, true, true, true, true, true, true, true, true, false, true, true] [true, true, true, true, true, true, true, true, true, false, true, true, false]
    (by kernel_rfl) (by kernel_rfl) (by decide +kernel) (by decide +kernel) (by decide +kernel) rfl ⟨rfl, rfl⟩ ⟨?s0, ?s1, ?s2, ?s3, ?s4, ?s5, ?s6, ?s7, ?s8, ?s9, ?s10, ?s11, ?s12, trivial⟩ [some 17, some 18, some 19, some 20, some 21, some 22, some 23, some 16, some 24, some 25, some 7, none, some 8] rfl rfl ?send
   case s0 =>
    intro val ρ W hE hz hd hA hx
    have o0 : ρ (.tmp 2) = .pointer (some ⟨w.heap.size, 0, none⟩) := hA.old 2 (by decide)
    have f_k0 := cell_below hE (by simp only; omega) k0
    have f_k1 := cell_below hE (by simp only; omega) k1
    have f_k2 := cell_below hE (by simp only; omega) k2
    have f_k3 := cell_below hE (by simp only; omega) k3
    have f_k4 := cell_below hE (by simp only; omega) k4
    have f_k5 := cell_below hE (by simp only; omega) k5
    have f_k6 := cell_below hE (by simp only; omega) k6
    have f_k7 := cell_below hE (by simp only; omega) k7
    clear hd
    exact runq_val (W' := W) (by simp [execOp, o0, f_k0, f_k1, f_k2, f_k3, f_k4, f_k5, f_k6, f_k7, go_sem]) (Below.refl _ _) rfl
   case s1 =>
    intro val ρ W hE hz hd hA hx
    have o0 : ρ (.tmp 2) = .pointer (some ⟨w.heap.size, 0, none⟩) := hA.old 2 (by decide)
    clear hd
    exact runq_val (W' := W) (by simp [execOp, o0, go_sem]) (Below.refl _ _) rfl
   case s2 =>
    intro val ρ W hE hz hd hA hx
    have d1 : ρ (.tmp 18) = .pointer (some ⟨w.heap.size, 2, none⟩) := (hA.dep 1 (by decide) 18 rfl).trans (hd 1 (by decide))
    have f_k2 := cell_below hE (by simp only; omega) k2
    clear hd
    exact runq_val (W' := W) (by simp [execOp, d1, f_k2, go_sem]) (Below.refl _ _) rfl
   case s3 =>
    intro val ρ W hE hz hd hA hx
    have o0 : ρ (.tmp 6) = .int .i64 k := hA.old 6 (by decide)
    clear hd
    exact runq_val (W' := W) (by simp [execOp, o0, go_sem]) (Below.refl _ _) rfl
   case s4 =>
    intro val ρ W hE hz hd hA hx
    have d2 : ρ (.tmp 19) = .slice (some ⟨bb, off, none⟩) b.bets.length bcap := (hA.dep 2 (by decide) 19 rfl).trans (hd 2 (by decide))
    have d3 : ρ (.tmp 20) = .int .i64 k := (hA.dep 3 (by decide) 20 rfl).trans (hd 3 (by decide))
    clear hd
    exact runq_val (W' := W) (by simp [execOp, d2, d3, hki, go_sem]) (Below.refl _ _) rfl
   case s5 =>
    intro val ρ W hE hz hd hA hx
    have d4 : ρ (.tmp 21) = .pointer (some ⟨bb, off + k * 3, none⟩) := (hA.dep 4 (by decide) 21 rfl).trans (hd 4 (by decide))
    have f_d0 := cell_below hE (by simp only; omega) d0
    have f_d1 := cell_below hE (by simp only; omega) d1
    have f_d2 := cell_below hE (by simp only; omega) d2
    clear hd
    exact runq_val (W' := W) (by simp [execOp, d4, f_d0, f_d1, f_d2, go_sem]) (Below.refl _ _) rfl
   case s6 =>
    intro val ρ W hE hz hd hA hx
    have d0 : ρ (.tmp 17) = .agg #[.int .i64 b.kd, .int .i64 b.n, .slice (some ⟨bb, off, none⟩) b.bets.length bcap, .slice sa b.scr.length scap, .bool b.fav, .int .i64 b.car, .int .i64 b.duty, .int .i64 b.step] := (hA.dep 0 (by decide) 17 rfl).trans (hd 0 (by decide))
    have d5 : ρ (.tmp 22) = .agg #[.int .i64 x.f, .int .i64 x.s, .int .i64 x.u] := (hA.dep 5 (by decide) 22 rfl).trans (hd 5 (by decide))
    clear hd
    refine runq_call 75 _ _ rfl #[.agg #[.int .i64 b.kd, .int .i64 b.n, .slice (some ⟨bb, off, none⟩) b.bets.length bcap, .slice sa b.scr.length scap, .bool b.fav, .int .i64 b.car, .int .i64 b.duty, .int .i64 b.step], .agg #[.int .i64 x.f, .int .i64 x.s, .int .i64 x.u]] (hA.func _) (by simp [d0, d5]) (fun args W => Try.call75 args W) ((HON.out W (HSW.out.ext hE)).mono ?_)
    rintro e w' ⟨rfl, hb⟩
    exact ⟨_, rfl, hb, rfl⟩
   case s7 =>
    intro val ρ W hE hz hd hA hx
    have d6 : ρ (.tmp 23) = .tuple #[.agg #[.int .i64 p, .int .i64 q], .bool o] := (hA.dep 6 (by decide) 23 rfl).trans (hd 6 (by decide))
    clear hd
    exact runq_val (W' := W) (by simp [execOp, d6, go_sem]) (Below.refl _ _) rfl
   case s8 =>
    intro val ρ W hE hz hd hA hx
    have d7 : ρ (.tmp 16) = .tuple #[.agg #[.int .i64 p, .int .i64 q], .bool o] := (hA.dep 7 (by decide) 16 rfl).trans (hd 7 (by decide))
    clear hd
    exact runq_val (W' := W) (by simp [execOp, d7, go_sem]) (Below.refl _ _) rfl
   case s9 =>
    intro val ρ W hE hz hd hA hx
    have d7 : ρ (.tmp 16) = .tuple #[.agg #[.int .i64 p, .int .i64 q], .bool o] := (hA.dep 7 (by decide) 16 rfl).trans (hd 7 (by decide))
    clear hd
    exact runq_val (W' := W) (by simp [execOp, d7, go_sem]) (Below.refl _ _) rfl
   case s12 =>
    intro val ρ W hE hz hd hA hx
    have d9 : ρ (.tmp 25) = .bool o := (hA.dep 9 (by decide) 25 rfl).trans (hd 9 (by decide))
    clear hd
    exact runq_val (W' := W) (by simp [execOp, d9, go_sem]) (Below.refl _ _) rfl
   case s10 =>
    intro val ρ W hE hz hd hA hx
    clear hd
    exact runq_val (W' := W.alloc (.cells #[.int .i64 0, .int .i64 0] 71)) (by simp [execOp, go_sem]) xx ⟨_, rfl, hE.size, World.alloc_heap_new W _⟩
   case s11 =>
    intro val ρ W hE hz hd hA hx
    obtain ⟨g, e1, hB, hacc⟩ : TwoP wr.heap.size (val 10) W := hd 10 (by decide)
    have dq : ρ (.tmp 7) = .pointer (some ⟨g, 0, none⟩) := (hA.dep 10 (by decide) 7 rfl).trans e1
    have d5 : ρ (.tmp 24) = .agg #[.int .i64 p, .int .i64 q] := (hA.dep 8 (by decide) 24 rfl).trans (hd 8 (by decide))
    clear hd
    have c0q : W.cell? ⟨g, 0, none⟩ = some (.int .i64 0) := by rw [cell_of_row _ _ _ _ _ _ hacc]; rfl
    have c1q : W.cell? ⟨g, 1, none⟩ = some (.int .i64 0) := by rw [cell_of_row _ _ _ _ _ _ hacc]; rfl
    have cfq : ∀ o, W.frozen? ⟨g, o, none⟩ = false := fun o => by simp [World.frozen?, hacc]
    exact runq_skip (W' := (W.setCell ⟨g, 0, none⟩ (.int .i64 p)).setCell ⟨g, 1, none⟩ (.int .i64 q)) (by simp [execOp, dq, d5, go_sem, c0q, c1q, cfq]) ((((Below.refl _ W).setCell hB _).setCell hB _)) ⟨g, congrArg (fun x => [x]) e1, hB, two_set hacc _ _⟩
   case send =>
    intro val WW hE hzz hv
    obtain ⟨-, -, -, -, -, -, -, -, -, -, -, r11, r12, -⟩ := hv
    have q12 : val 12 = .bool o := r12
    obtain ⟨g, e10, hgB, hg⟩ : ∃ g, [val 10] = [.pointer (some ⟨g, 0, none⟩)] ∧ wr.heap.size ≤ g ∧ TwoI WW g p q := r11
    have q10 := (List.cons.inj e10).1
    have HEW := Lib.hid (HE.out.trans' hE)
    replace k2 := cell_ext hE k2
    replace t0 := cell_ext hE t0
    replace t1 := cell_ext hE t1
    replace d2 := cell_ext hE d2
    replace hz := World.block_lt_of_cell? _ _ k2
    replace hzt := World.block_lt_of_cell? _ _ t0
    replace hzd := World.block_lt_of_cell? _ _ d2
    simp only at hz hzt hzd
    have g0 := hg.c0
    have g1 := hg.c1
    have hzg := hg.lt
    simp only [putD, q10, q12]
    go_frame
    clear hE hzz r12 q12 q10 e10 hg k0 k1 k3 k4 k5 k6 k7 d0 d1
    have hq2 := fun W => eql_two W p q s1 s2
    cases o
    ·have HT0 : Hid (sumB (unitsG b (s1, s2)) (b.bets.take (k + 1)) = n) := Lib.hid (by rw [HTK.out, if_neg (fun h => by cases h.1)]; omega)
     clear HTK hbd2
     go_wp2_with fail
     go_roundw
     case rel => exact ⟨k + 1, n, by omega, by go_num, rfl, HT0.out.symm, HEW.out⟩
     case measure => simp [intOf]; omega
    ·by_cases he : p = s1 ∧ q = s2
     ·have hq3 : (p == s1 && q == s2) = true := by simp [he.1, he.2]
      have HT0 : Hid (sumB (unitsG b (s1, s2)) (b.bets.take (k + 1)) = n + x.u) := Lib.hid (by rw [HTK.out, if_pos ⟨rfl, he⟩])
      rw [if_pos ⟨rfl, he⟩] at hbd2
      simp only [hq3] at hq2
      clear he hq3
      go_wp2_with fail
      go_roundw
      case rel => exact ⟨k + 1, n + x.u, by omega, by go_num, by go_num, HT0.out.symm, HEW.out⟩
      case measure => simp [intOf]; omega
     ·have hq3 : (p == s1 && q == s2) = false := by
       rw [Bool.eq_false_iff]; intro h; rw [Bool.and_eq_true, beq_iff_eq, beq_iff_eq] at h; exact he h
      have HT0 : Hid (sumB (unitsG b (s1, s2)) (b.bets.take (k + 1)) = n) := Lib.hid (by rw [HTK.out, if_neg (fun h => he h.2)]; omega)
      simp only [hq3] at hq2
      clear he hq3 hbd2
      go_wp2_with fail
      go_roundw
      case rel => exact ⟨k + 1, n, by omega, by go_num, rfl, HT0.out.symm, HEW.out⟩
      case measure => simp [intOf]; omega
  ·have hki : ¬ ((k : Int) < (b.bets.length : Int)) := by omega
   have HR : Hid (n = unitsP b (s1, s2)) := Lib.hid (by rw [hn, show k = b.bets.length by omega, List.take_length]; rfl)
   clear hn hE
   go_wp2_with fail
   go_ret
   exact ⟨ret_int HR.out, HW.out.trans' HE.out⟩
end Go.Proofs.Ytphajlldghcnnaa
namespace Go.Proofs.Ytphajlldghcnnaa
open Go.RowKit Go.Shelf
theorem on_back {b : Bk} {x : PB} {p q : Int} {o : Bool} (h : onRE b x = .tuple #[.agg #[.int .i64 p, .int .i64 q], .bool o]) : backG b x = if o = true then 0 else 100 * x.u := by
 unfold onRE onRV at h
 unfold backG
 cases ho : onP b x with
 | none =>
  rw [ho] at h
  simp at h
  have h2 := h.2
  simp_all
 | some t =>
  rw [ho] at h
  simp at h
  have h2 := h.2
  simp_all
set_option maxRecDepth 100000 in
set_option maxHeartbeats 8000000 in
theorem netR_any (b : Bk) (ba sa : Option Addr) (bcap scap : Nat) (w : World) (hv : IsBook w b ba bcap sa scap) (v : BVal b) :
  Calls Try.prog 45 #[.agg #[.int .i64 b.kd, .int .i64 b.n, .slice ba b.bets.length bcap, .slice sa b.scr.length scap, .bool b.fav, .int .i64 b.car, .int .i64 b.duty, .int .i64 b.step]] w fun e w' => e = .returned (accV (netA b)) ∧ Ext w w' := by
 have HV := Lib.hid hv
 have V := Lib.hid v
 have hvn := v.n
 have hcar := v.car
 have hduty := v.duty
 obtain ⟨⟨m1, m2⟩, m3, m4⟩ := hv.caps
 clear hv v
 go_enter Try.func45, Try.ntmps45
 go_upto_region 1 with (fail)
 obtain ⟨W0, hW0⟩ : ∃ W0, W0 = (w.alloc (.cells #[.int .i64 b.kd, .int .i64 b.n, .slice ba b.bets.length bcap, .slice sa b.scr.length scap, .bool b.fav, .int .i64 b.car, .int .i64 b.duty, .int .i64 b.step] 25)).alloc (.cells #[.int .i64 0, .int .i64 0, .int .i64 0, .int .i64 0, .int .i64 0, .int .i64 0] 48) := ⟨_, rfl⟩
 have hE0 : Ext w W0 := by rw [hW0]; exact xx
 have hbk0 : BookAt W0 w.heap.size b ba bcap sa scap := by rw [hW0]; constructor <;> simp [go_sem]
 have hra : AccAt W0 (w.heap.size + 1) ⟨0, 0, 0, 0, 0, 0⟩ := by
  rw [hW0]
  have := World.alloc_heap_new (w.alloc (.cells #[.int .i64 b.kd, .int .i64 b.n, .slice ba b.bets.length bcap, .slice sa b.scr.length scap, .bool b.fav, .int .i64 b.car, .int .i64 b.duty, .int .i64 b.step] 25)) (.cells #[.int .i64 0, .int .i64 0, .int .i64 0, .int .i64 0, .int .i64 0, .int .i64 0] 48)
  rwa [World.size_alloc] at this
 rw [← hW0]
 have k0 := (hbk0).c0
 have k1 := (hbk0).c1
 have k2 := (hbk0).c2
 have k3 := (hbk0).c3
 have k4 := (hbk0).c4
 have k5 := (hbk0).c5
 have k6 := (hbk0).c6
 have k7 := (hbk0).c7
 have hz := (hbk0).lt
 clear hW0
 go_upto_region 2 with (fail)
 obtain ⟨X, hX⟩ : ∃ X, X = W0.alloc (.cells #[.int .i64 b.car, .int .i64 0, .int .i64 0, .int .i64 0, .int .i64 0, .int .i64 0] 48) := ⟨_, rfl⟩
 rw [← hX]
 obtain ⟨Q, hQ⟩ : ∃ Q, Q = W0.heap.size := ⟨_, rfl⟩
 rw [← hQ]
 have hE1 : Ext W0 X := by rw [hX]; exact xx
 have hQX : AccAt X Q ⟨b.car, 0, 0, 0, 0, 0⟩ := by rw [hX, hQ]; exact World.alloc_heap_new W0 _
 have hz0 := hra.lt
 have HBK := Lib.hid (hbk0.ext hE1)
 have HRA := Lib.hid (hra.ext hE1)
 have HQX := Lib.hid hQX
 have HW := Lib.hid (hE0.trans' hE1)
 have HS := Lib.hid (HV.out.ext (hE0.trans' hE1))
 have hqw : w.heap.size + 2 ≤ Q := by omega
 have hqx := hQX.lt
 have hwx := (hE0.trans' hE1).size
 clear hX hQ hE0 hE1 hbk0 hra hQX k0 k1 k2 k3 k4 k5 k6 k7 hz
 go_wp2_with fail
 go_loopw [4] (fun iv W => ∃ k : Nat, k ≤ b.bets.length ∧ iv = .int .i64 k ∧ AccAt W Q ⟨b.car + sumB (fun x => 100 * x.u) (b.bets.take k), sumB (backG b) (b.bets.take k), 0, 0, 0, 0⟩ ∧ Kept (fun j => j ≠ Q) X W) (fun iv _ => b.bets.length - (intOf iv).toNat)
 case atStart => exact ⟨0, by omega, rfl, by simpa [sumB] using HQX.out, Kept.refl _ _⟩
 case round =>
  obtain ⟨k, hk, rfl, hacc, hkp⟩ := hrel
  have HA := Lib.hid hacc
  have HK := Lib.hid hkp
  have r0 := (hkp).cell HBK.out.c0 (by simp only; omega)
  have r1 := (hkp).cell HBK.out.c1 (by simp only; omega)
  have r2 := (hkp).cell HBK.out.c2 (by simp only; omega)
  have r3 := (hkp).cell HBK.out.c3 (by simp only; omega)
  have r4 := (hkp).cell HBK.out.c4 (by simp only; omega)
  have r5 := (hkp).cell HBK.out.c5 (by simp only; omega)
  have r6 := (hkp).cell HBK.out.c6 (by simp only; omega)
  have r7 := (hkp).cell HBK.out.c7 (by simp only; omega)
  have hz := World.block_lt_of_cell? _ _ r0
  simp only at hz
  have hEw : Ext w wr := ext_kept HW.out hkp (by omega)
  by_cases hlt : k < b.bets.length
  ·have hki : (k : Int) < (b.bets.length : Int) := by omega
   have hbd := in_bd V.out (k + 1)
   have hbk2 := back_bd V.out (k + 1)
   have hbd0 := in_bd V.out k
   have hbk0 := back_bd V.out k
   have ht1 := sumB_take (fun x => 100 * x.u) hlt
   have ht2 := sumB_take (backG b) hlt
   have hbu := (V.out.bet (List.getElem_mem hlt)).1
   rw [ht1] at hbd hbk2
   rw [ht2] at hbk2
   obtain ⟨I, hI⟩ : ∃ I, I = b.car + sumB (fun x => 100 * x.u) (b.bets.take k) := ⟨_, rfl⟩
   obtain ⟨K, hK⟩ : ∃ K, K = sumB (backG b) (b.bets.take k) := ⟨_, rfl⟩
   rw [← hI, ← hK] at hacc
   replace HA := Lib.hid hacc
   obtain ⟨bb, off, rfl, hc⟩ := bets_cell HV.out.bets hlt
   obtain ⟨⟨d0, d1, d2⟩, hzd⟩ := hc wr hEw
   obtain ⟨x, hx⟩ : ∃ x, x = b.bets[k] := ⟨_, rfl⟩
   rw [← hx] at d0 d1 d2 ht1 ht2 hbd hbk2 hbu
   have hc2 := hc
   rw [← hx] at hc2
   obtain ⟨p, q, o, hon⟩ := on_shape b x
   have hbg := on_back hon
   have t9 := fun W h => onRef_any x b (some ⟨bb, off, none⟩) sa bcap scap W h V.out
   rw [hon] at t9
   have HON := Lib.hid t9
   have HC2 := Lib.hid hc2
   have HI := Lib.hid hI
   have HKK := Lib.hid hK
   have HT1 := Lib.hid ht1
   have HT2 := Lib.hid ht2
   have HBG := Lib.hid hbg
   have hi0 : 0 ≤ I ∧ I + 100 * x.u ≤ 11000000 := by rw [hI]; omega
   have hk0 : 0 ≤ K ∧ K ≤ 10000000 := by rw [hK]; omega
   have hw1 : IntKind.i64.wrap (100 * x.u) = 100 * x.u := IntWalk.i64_in _ (by omega)
   have hw2 : IntKind.i64.wrap (I + 100 * x.u) = I + 100 * x.u := IntWalk.i64_in _ (by omega)
   have hw3 : IntKind.i64.wrap (K + 100 * x.u) = K + 100 * x.u := IntWalk.i64_in _ (by omega)
   have hAW := hacc
   have c0x := hAW.c0
   have c1x := hAW.c1
   have cfx := fun o => hAW.fr o
   have czx := hAW.lt
   simp only at c0x c1x
   have k2 := r2
   have HEW := Lib.hid hEw
   clear hacc hkp hc hc2 hx hon hbg t9 hI hK ht1 ht2 hbd hbk2 hbd0 hbk0 hEw hAW
   go_upto_region 5 with (fail)
   refine wp_region_rove_tail rfl rfl (by kernel_rfl) (wr.heap.size) (Nat.le_refl _)
    [sqV (.pointer (some ⟨Q, 0, none⟩)), sqV (.int .i64 I), sqV (.pointer (some ⟨w.heap.size, 2, none⟩)), sqV (.slice (some ⟨bb, off, none⟩) b.bets.length bcap), sqV (.int .i64 k), sqV (.pointer (some ⟨bb, off + k * 3, none⟩)), sqV (.pointer (some ⟨bb, off + k * 3 + 2, none⟩)), sqV (.int .i64 x.u), sqV (.int .i64 (100 * x.u)), sqV (.int .i64 (I + 100 * x.u)), sqV (.pointer (some ⟨Q, 0, none⟩))]
    [true, true, true, true, true, true, true, true, true, true, true] [false, false, false, false, false, false, false, false, false, false, false] [true, true, true, true, true, true, true, true, true, true, true] [true, true, true, true, true, true, true, true, true, true, true]
    (by kernel_rfl) (by kernel_rfl) (by decide +kernel) (by decide +kernel) (by decide +kernel) rfl ⟨rfl, rfl⟩ ⟨?s0, ?s1, ?s2, ?s3, ?s4, ?s5, ?s6, ?s7, ?s8, ?s9, ?s10, trivial⟩ [some 17, some 18, some 19, some 20, some 21, some 22, some 23, some 24, some 25, some 26, some 27] rfl rfl ?send
   case s0 =>
    intro val ρ W hE hz hd hA hx
    have o0 : ρ (.tmp 3) = .pointer (some ⟨Q, 0, none⟩) := hA.old 3 (by decide)
    clear hd
    exact runq_val (W' := W) (by simp [execOp, o0, go_sem]) (Below.refl _ _) rfl
   case s1 =>
    intro val ρ W hE hz hd hA hx
    have d0 : ρ (.tmp 17) = .pointer (some ⟨Q, 0, none⟩) := (hA.dep 0 (by decide) 17 rfl).trans (hd 0 (by decide))
    have f_c0x := cell_below hE (by simp only; omega) c0x
    clear hd
    exact runq_val (W' := W) (by simp [execOp, d0, f_c0x, go_sem]) (Below.refl _ _) rfl
   case s2 =>
    intro val ρ W hE hz hd hA hx
    have o0 : ρ (.tmp 1) = .pointer (some ⟨w.heap.size, 0, none⟩) := hA.old 1 (by decide)
    clear hd
    exact runq_val (W' := W) (by simp [execOp, o0, go_sem]) (Below.refl _ _) rfl
   case s3 =>
    intro val ρ W hE hz hd hA hx
    have d2 : ρ (.tmp 19) = .pointer (some ⟨w.heap.size, 2, none⟩) := (hA.dep 2 (by decide) 19 rfl).trans (hd 2 (by decide))
    have f_k2 := cell_below hE (by simp only; omega) k2
    clear hd
    exact runq_val (W' := W) (by simp [execOp, d2, f_k2, go_sem]) (Below.refl _ _) rfl
   case s4 =>
    intro val ρ W hE hz hd hA hx
    have o0 : ρ (.tmp 4) = .int .i64 k := hA.old 4 (by decide)
    clear hd
    exact runq_val (W' := W) (by simp [execOp, o0, go_sem]) (Below.refl _ _) rfl
   case s5 =>
    intro val ρ W hE hz hd hA hx
    have d3 : ρ (.tmp 20) = .slice (some ⟨bb, off, none⟩) b.bets.length bcap := (hA.dep 3 (by decide) 20 rfl).trans (hd 3 (by decide))
    have d4 : ρ (.tmp 21) = .int .i64 k := (hA.dep 4 (by decide) 21 rfl).trans (hd 4 (by decide))
    clear hd
    exact runq_val (W' := W) (by simp [execOp, d3, d4, hki, go_sem]) (Below.refl _ _) rfl
   case s6 =>
    intro val ρ W hE hz hd hA hx
    have d5 : ρ (.tmp 22) = .pointer (some ⟨bb, off + k * 3, none⟩) := (hA.dep 5 (by decide) 22 rfl).trans (hd 5 (by decide))
    clear hd
    exact runq_val (W' := W) (by simp [execOp, d5, go_sem]) (Below.refl _ _) rfl
   case s7 =>
    intro val ρ W hE hz hd hA hx
    have d6 : ρ (.tmp 23) = .pointer (some ⟨bb, off + k * 3 + 2, none⟩) := (hA.dep 6 (by decide) 23 rfl).trans (hd 6 (by decide))
    have f_d2 := cell_below hE (by simp only; omega) d2
    clear hd
    exact runq_val (W' := W) (by simp [execOp, d6, f_d2, go_sem]) (Below.refl _ _) rfl
   case s8 =>
    intro val ρ W hE hz hd hA hx
    have d7 : ρ (.tmp 24) = .int .i64 x.u := (hA.dep 7 (by decide) 24 rfl).trans (hd 7 (by decide))
    clear hd
    exact runq_val (W' := W) (by simp [execOp, hA.const, d7, hw1, go_sem]) (Below.refl _ _) rfl
   case s9 =>
    intro val ρ W hE hz hd hA hx
    have d1 : ρ (.tmp 18) = .int .i64 I := (hA.dep 1 (by decide) 18 rfl).trans (hd 1 (by decide))
    have d8 : ρ (.tmp 25) = .int .i64 (100 * x.u) := (hA.dep 8 (by decide) 25 rfl).trans (hd 8 (by decide))
    clear hd
    exact runq_val (W' := W) (by simp [execOp, d1, d8, hw2, go_sem]) (Below.refl _ _) rfl
   case s10 =>
    intro val ρ W hE hz hd hA hx
    have o0 : ρ (.tmp 3) = .pointer (some ⟨Q, 0, none⟩) := hA.old 3 (by decide)
    clear hd
    exact runq_val (W' := W) (by simp [execOp, o0, go_sem]) (Below.refl _ _) rfl
   case send =>
    intro val W1 hE hzz hv
    obtain ⟨-, -, -, -, -, -, -, -, -, r9, r10, -⟩ := hv
    have q9 : val 9 = .int .i64 (I + 100 * x.u) := r9
    have q10 : val 10 = .pointer (some ⟨Q, 0, none⟩) := r10
    have hA1 : AccAt W1 Q ⟨I, K, 0, 0, 0, 0⟩ := HA.out.ext hE
    have HA1 := Lib.hid hA1
    have HK1 := Lib.hid (HK.out.trans ((Kept.of_below hE).mono (T := fun j => j ≠ Q) fun j hj _ => hj))
    clear c0x c1x cfx czx
    have hAW := hA1
    have c0x := hAW.c0
    have c1x := hAW.c1
    have cfx := fun o => hAW.fr o
    have czx := hAW.lt
    simp only at c0x c1x
    simp only [putD, q9, q10]
    go_frame
    clear hE hzz r9 r10 q9 q10 hA1 hAW r0 r1 r2 r3 r4 r5 r6 r7 k2 d0 d1 d2 hz hzd
    go_upto_region 6 with (fail)
    obtain ⟨Y, hY⟩ : ∃ Y, Y = W1.setCell ⟨Q, 0, none⟩ (.int .i64 (I + 100 * x.u)) := ⟨_, rfl⟩
    rw [← hY]
    have hAY : AccAt Y Q ⟨I + 100 * x.u, K, 0, 0, 0, 0⟩ := by rw [hY]; exact heap_setCell_row HA1.out 0 (.int .i64 (I + 100 * x.u))
    have hKY : Kept (fun j => j ≠ Q) X Y := by rw [hY]; exact HK1.out.setCell (fun _ h => h rfl) _
    have HAY := Lib.hid hAY
    have HKY := Lib.hid hKY
    have hEY : Ext w Y := ext_kept HW.out hKY (by omega)
    have HSW := Lib.hid (HV.out.ext hEY)
    have r0 := (hKY).cell HBK.out.c0 (by simp only; omega)
    have r1 := (hKY).cell HBK.out.c1 (by simp only; omega)
    have r2 := (hKY).cell HBK.out.c2 (by simp only; omega)
    have r3 := (hKY).cell HBK.out.c3 (by simp only; omega)
    have r4 := (hKY).cell HBK.out.c4 (by simp only; omega)
    have r5 := (hKY).cell HBK.out.c5 (by simp only; omega)
    have r6 := (hKY).cell HBK.out.c6 (by simp only; omega)
    have r7 := (hKY).cell HBK.out.c7 (by simp only; omega)
    obtain ⟨⟨d0, d1, d2⟩, hzd⟩ := HC2.out Y hEY
    have k0 := r0
    have k1 := r1
    have k2 := r2
    have k3 := r3
    have k4 := r4
    have k5 := r5
    have k6 := r6
    have k7 := r7
    have hz := World.block_lt_of_cell? _ _ r0
    simp only at hz
    clear hY hAY hKY hEY c0x c1x cfx czx r0 r1 r2 r3 r4 r5 r6 r7
    refine wp_region_rove (Y.heap.size) (Nat.le_refl _)
     [sqV (.agg #[.int .i64 b.kd, .int .i64 b.n, .slice (some ⟨bb, off, none⟩) b.bets.length bcap, .slice sa b.scr.length scap, .bool b.fav, .int .i64 b.car, .int .i64 b.duty, .int .i64 b.step]), sqV (.pointer (some ⟨w.heap.size, 2, none⟩)), sqV (.slice (some ⟨bb, off, none⟩) b.bets.length bcap), sqV (.int .i64 k), sqV (.pointer (some ⟨bb, off + k * 3, none⟩)), sqV (.agg #[.int .i64 x.f, .int .i64 x.s, .int .i64 x.u]), sqV (.tuple #[.agg #[.int .i64 p, .int .i64 q], .bool o]), sqV (.tuple #[.agg #[.int .i64 p, .int .i64 q], .bool o]), sqV (.agg #[.int .i64 p, .int .i64 q]), sqV (.bool o), sqW (fun v W => TwoP Y.heap.size v W) (fun _ _ _ h e => TwoP.ext e h), sqD [10] (fun l v W => ∃ g, l = [.pointer (some ⟨g, 0, none⟩)] ∧ Y.heap.size ≤ g ∧ TwoI W g p q) (fun _ _ _ _ ⟨g, h1, h2, h3⟩ e => ⟨g, h1, h2, h3.ext e⟩), sqV (.bool o)]
     [true, true, true, true, true, true, true, true, true, true, false, false, true] [false, false, false, false, false, false, false, false, false, false, false, true, false] [true, true, true, true, true, true, true, true, true, true, false, true, true] [true, true, true, true, true, true, true, true, true, false, true, true, false]
     (by kernel_rfl) (by kernel_rfl) (by decide +kernel) (by decide +kernel) (by decide +kernel) rfl ⟨rfl, rfl⟩ ⟨?s0, ?s1, ?s2, ?s3, ?s4, ?s5, ?s6, ?s7, ?s8, ?s9, ?s10, ?s11, ?s12, trivial⟩ [some 29, some 30, some 31, some 32, some 33, some 34, some 35, some 28, some 36, some 37, some 5, none, some 6] rfl rfl ?send
    case s0 =>
     intro val ρ W hE hz hd hA hx
     have o0 : ρ (.tmp 1) = .pointer (some ⟨w.heap.size, 0, none⟩) := hA.old 1 (by decide)
     have f_k0 := cell_below hE (by simp only; omega) k0
     have f_k1 := cell_below hE (by simp only; omega) k1
     have f_k2 := cell_below hE (by simp only; omega) k2
     have f_k3 := cell_below hE (by simp only; omega) k3
     have f_k4 := cell_below hE (by simp only; omega) k4
     have f_k5 := cell_below hE (by simp only; omega) k5
     have f_k6 := cell_below hE (by simp only; omega) k6
     have f_k7 := cell_below hE (by simp only; omega) k7
     clear hd
     exact runq_val (W' := W) (by simp [execOp, o0, f_k0, f_k1, f_k2, f_k3, f_k4, f_k5, f_k6, f_k7, go_sem]) (Below.refl _ _) rfl
    case s1 =>
     intro val ρ W hE hz hd hA hx
     have o0 : ρ (.tmp 1) = .pointer (some ⟨w.heap.size, 0, none⟩) := hA.old 1 (by decide)
     clear hd
     exact runq_val (W' := W) (by simp [execOp, o0, go_sem]) (Below.refl _ _) rfl
    case s2 =>
     intro val ρ W hE hz hd hA hx
     have d1 : ρ (.tmp 30) = .pointer (some ⟨w.heap.size, 2, none⟩) := (hA.dep 1 (by decide) 30 rfl).trans (hd 1 (by decide))
     have f_k2 := cell_below hE (by simp only; omega) k2
     clear hd
     exact runq_val (W' := W) (by simp [execOp, d1, f_k2, go_sem]) (Below.refl _ _) rfl
    case s3 =>
     intro val ρ W hE hz hd hA hx
     have o0 : ρ (.tmp 4) = .int .i64 k := hA.old 4 (by decide)
     clear hd
     exact runq_val (W' := W) (by simp [execOp, o0, go_sem]) (Below.refl _ _) rfl
    case s4 =>
     intro val ρ W hE hz hd hA hx
     have d2 : ρ (.tmp 31) = .slice (some ⟨bb, off, none⟩) b.bets.length bcap := (hA.dep 2 (by decide) 31 rfl).trans (hd 2 (by decide))
     have d3 : ρ (.tmp 32) = .int .i64 k := (hA.dep 3 (by decide) 32 rfl).trans (hd 3 (by decide))
     clear hd
     exact runq_val (W' := W) (by simp [execOp, d2, d3, hki, go_sem]) (Below.refl _ _) rfl
    case s5 =>
     intro val ρ W hE hz hd hA hx
     have d4 : ρ (.tmp 33) = .pointer (some ⟨bb, off + k * 3, none⟩) := (hA.dep 4 (by decide) 33 rfl).trans (hd 4 (by decide))
     have f_d0 := cell_below hE (by simp only; omega) d0
     have f_d1 := cell_below hE (by simp only; omega) d1
     have f_d2 := cell_below hE (by simp only; omega) d2
     clear hd
     exact runq_val (W' := W) (by simp [execOp, d4, f_d0, f_d1, f_d2, go_sem]) (Below.refl _ _) rfl
    case s6 =>
     intro val ρ W hE hz hd hA hx
     have d0 : ρ (.tmp 29) = .agg #[.int .i64 b.kd, .int .i64 b.n, .slice (some ⟨bb, off, none⟩) b.bets.length bcap, .slice sa b.scr.length scap, .bool b.fav, .int .i64 b.car, .int .i64 b.duty, .int .i64 b.step] := (hA.dep 0 (by decide) 29 rfl).trans (hd 0 (by decide))
     have d5 : ρ (.tmp 34) = .agg #[.int .i64 x.f, .int .i64 x.s, .int .i64 x.u] := (hA.dep 5 (by decide) 34 rfl).trans (hd 5 (by decide))
     clear hd
     refine runq_call 75 _ _ rfl #[.agg #[.int .i64 b.kd, .int .i64 b.n, .slice (some ⟨bb, off, none⟩) b.bets.length bcap, .slice sa b.scr.length scap, .bool b.fav, .int .i64 b.car, .int .i64 b.duty, .int .i64 b.step], .agg #[.int .i64 x.f, .int .i64 x.s, .int .i64 x.u]] (hA.func _) (by simp [d0, d5]) (fun args W => Try.call75 args W) ((HON.out W (HSW.out.ext hE)).mono ?_)
     rintro e w' ⟨rfl, hb⟩
     exact ⟨_, rfl, hb, rfl⟩
    case s7 =>
     intro val ρ W hE hz hd hA hx
     have d6 : ρ (.tmp 35) = .tuple #[.agg #[.int .i64 p, .int .i64 q], .bool o] := (hA.dep 6 (by decide) 35 rfl).trans (hd 6 (by decide))
     clear hd
     exact runq_val (W' := W) (by simp [execOp, d6, go_sem]) (Below.refl _ _) rfl
    case s8 =>
     intro val ρ W hE hz hd hA hx
     have d7 : ρ (.tmp 28) = .tuple #[.agg #[.int .i64 p, .int .i64 q], .bool o] := (hA.dep 7 (by decide) 28 rfl).trans (hd 7 (by decide))
     clear hd
     exact runq_val (W' := W) (by simp [execOp, d7, go_sem]) (Below.refl _ _) rfl
    case s9 =>
     intro val ρ W hE hz hd hA hx
     have d7 : ρ (.tmp 28) = .tuple #[.agg #[.int .i64 p, .int .i64 q], .bool o] := (hA.dep 7 (by decide) 28 rfl).trans (hd 7 (by decide))
     clear hd
     exact runq_val (W' := W) (by simp [execOp, d7, go_sem]) (Below.refl _ _) rfl
    case s12 =>
     intro val ρ W hE hz hd hA hx
     have d9 : ρ (.tmp 37) = .bool o := (hA.dep 9 (by decide) 37 rfl).trans (hd 9 (by decide))
     clear hd
     exact runq_val (W' := W) (by simp [execOp, d9, go_sem]) (Below.refl _ _) rfl
    case s10 =>
     intro val ρ W hE hz hd hA hx
     clear hd
     exact runq_val (W' := W.alloc (.cells #[.int .i64 0, .int .i64 0] 71)) (by simp [execOp, go_sem]) xx ⟨_, rfl, hE.size, World.alloc_heap_new W _⟩
    case s11 =>
     intro val ρ W hE hz hd hA hx
     obtain ⟨g, e1, hB, hacc⟩ : TwoP Y.heap.size (val 10) W := hd 10 (by decide)
     have dq : ρ (.tmp 5) = .pointer (some ⟨g, 0, none⟩) := (hA.dep 10 (by decide) 5 rfl).trans e1
     have d5 : ρ (.tmp 36) = .agg #[.int .i64 p, .int .i64 q] := (hA.dep 8 (by decide) 36 rfl).trans (hd 8 (by decide))
     clear hd
     have c0q : W.cell? ⟨g, 0, none⟩ = some (.int .i64 0) := by rw [cell_of_row _ _ _ _ _ _ hacc]; rfl
     have c1q : W.cell? ⟨g, 1, none⟩ = some (.int .i64 0) := by rw [cell_of_row _ _ _ _ _ _ hacc]; rfl
     have cfq : ∀ o, W.frozen? ⟨g, o, none⟩ = false := fun o => by simp [World.frozen?, hacc]
     exact runq_skip (W' := (W.setCell ⟨g, 0, none⟩ (.int .i64 p)).setCell ⟨g, 1, none⟩ (.int .i64 q)) (by simp [execOp, dq, d5, go_sem, c0q, c1q, cfq]) ((((Below.refl _ W).setCell hB _).setCell hB _)) ⟨g, congrArg (fun x => [x]) e1, hB, two_set hacc _ _⟩
    case send =>
     intro val WW hE hzz hv
     obtain ⟨-, -, -, -, -, -, -, -, -, -, -, r11, r12, -⟩ := hv
     have q12 : val 12 = .bool o := r12
     obtain ⟨g, e10, hgB, hg⟩ : ∃ g, [val 10] = [.pointer (some ⟨g, 0, none⟩)] ∧ Y.heap.size ≤ g ∧ TwoI WW g p q := r11
     have q10 := (List.cons.inj e10).1
     have hA2 : AccAt WW Q ⟨I + 100 * x.u, K, 0, 0, 0, 0⟩ := HAY.out.ext hE
     have HA2 := Lib.hid hA2
     have HK2 := Lib.hid (HKY.out.trans ((Kept.of_below hE).mono (T := fun j => j ≠ Q) fun j hj _ => hj))
     have HC3 := Lib.hid ((HC2.out WW (Ext.trans' (ext_kept HW.out HKY.out (by omega)) hE)))
     have hAW := hA2
     have c0x := hAW.c0
     have c1x := hAW.c1
     have cfx := fun o => hAW.fr o
     have czx := hAW.lt
     simp only at c0x c1x
     have s2 := cell_ext hE k2
     simp only [putD, q10, q12]
     go_frame
     clear hE hzz r12 q12 q10 e10 hg hA2 hAW k0 k1 k2 k3 k4 k5 k6 k7 d0 d1 d2 hz hzd
     have k2 := s2
     have hz := World.block_lt_of_cell? _ _ k2
     simp only at hz
     obtain ⟨⟨-, -, d2⟩, hzd⟩ := HC3.out
     clear s2
     cases o
     ·have HB0 : Hid (backG b x = 100 * x.u) := Lib.hid (by rw [HBG.out]; simp)
      clear HBG
      go_upto_region 8 with (fail)
      refine wp_region_rove_tail rfl rfl (by kernel_rfl) (WW.heap.size) (Nat.le_refl _)
       [sqV (.pointer (some ⟨Q, 1, none⟩)), sqV (.int .i64 K), sqV (.pointer (some ⟨w.heap.size, 2, none⟩)), sqV (.slice (some ⟨bb, off, none⟩) b.bets.length bcap), sqV (.int .i64 k), sqV (.pointer (some ⟨bb, off + k * 3, none⟩)), sqV (.pointer (some ⟨bb, off + k * 3 + 2, none⟩)), sqV (.int .i64 x.u), sqV (.int .i64 (100 * x.u)), sqV (.int .i64 (K + 100 * x.u)), sqV (.pointer (some ⟨Q, 1, none⟩))]
       [true, true, true, true, true, true, true, true, true, true, true] [false, false, false, false, false, false, false, false, false, false, false] [true, true, true, true, true, true, true, true, true, true, true] [true, true, true, true, true, true, true, true, true, true, true]
       (by kernel_rfl) (by kernel_rfl) (by decide +kernel) (by decide +kernel) (by decide +kernel) rfl ⟨rfl, rfl⟩ ⟨?s0, ?s1, ?s2, ?s3, ?s4, ?s5, ?s6, ?s7, ?s8, ?s9, ?s10, trivial⟩ [some 40, some 41, some 42, some 43, some 44, some 45, some 46, some 47, some 48, some 49, some 50] rfl rfl ?send
      case s0 =>
       intro val ρ W hE hz hd hA hx
       have o0 : ρ (.tmp 3) = .pointer (some ⟨Q, 0, none⟩) := hA.old 3 (by decide)
       clear hd
       exact runq_val (W' := W) (by simp [execOp, o0, go_sem]) (Below.refl _ _) rfl
      case s1 =>
       intro val ρ W hE hz hd hA hx
       have d0 : ρ (.tmp 40) = .pointer (some ⟨Q, 1, none⟩) := (hA.dep 0 (by decide) 40 rfl).trans (hd 0 (by decide))
       have f_c1x := cell_below hE (by simp only; omega) c1x
       clear hd
       exact runq_val (W' := W) (by simp [execOp, d0, f_c1x, go_sem]) (Below.refl _ _) rfl
      case s2 =>
       intro val ρ W hE hz hd hA hx
       have o0 : ρ (.tmp 1) = .pointer (some ⟨w.heap.size, 0, none⟩) := hA.old 1 (by decide)
       clear hd
       exact runq_val (W' := W) (by simp [execOp, o0, go_sem]) (Below.refl _ _) rfl
      case s3 =>
       intro val ρ W hE hz hd hA hx
       have d2 : ρ (.tmp 42) = .pointer (some ⟨w.heap.size, 2, none⟩) := (hA.dep 2 (by decide) 42 rfl).trans (hd 2 (by decide))
       have f_k2 := cell_below hE (by simp only; omega) k2
       clear hd
       exact runq_val (W' := W) (by simp [execOp, d2, f_k2, go_sem]) (Below.refl _ _) rfl
      case s4 =>
       intro val ρ W hE hz hd hA hx
       have o0 : ρ (.tmp 4) = .int .i64 k := hA.old 4 (by decide)
       clear hd
       exact runq_val (W' := W) (by simp [execOp, o0, go_sem]) (Below.refl _ _) rfl
      case s5 =>
       intro val ρ W hE hz hd hA hx
       have d3 : ρ (.tmp 43) = .slice (some ⟨bb, off, none⟩) b.bets.length bcap := (hA.dep 3 (by decide) 43 rfl).trans (hd 3 (by decide))
       have d4 : ρ (.tmp 44) = .int .i64 k := (hA.dep 4 (by decide) 44 rfl).trans (hd 4 (by decide))
       clear hd
       exact runq_val (W' := W) (by simp [execOp, d3, d4, hki, go_sem]) (Below.refl _ _) rfl
      case s6 =>
       intro val ρ W hE hz hd hA hx
       have d5 : ρ (.tmp 45) = .pointer (some ⟨bb, off + k * 3, none⟩) := (hA.dep 5 (by decide) 45 rfl).trans (hd 5 (by decide))
       clear hd
       exact runq_val (W' := W) (by simp [execOp, d5, go_sem]) (Below.refl _ _) rfl
      case s7 =>
       intro val ρ W hE hz hd hA hx
       have d6 : ρ (.tmp 46) = .pointer (some ⟨bb, off + k * 3 + 2, none⟩) := (hA.dep 6 (by decide) 46 rfl).trans (hd 6 (by decide))
       have f_d2 := cell_below hE (by simp only; omega) d2
       clear hd
       exact runq_val (W' := W) (by simp [execOp, d6, f_d2, go_sem]) (Below.refl _ _) rfl
      case s8 =>
       intro val ρ W hE hz hd hA hx
       have d7 : ρ (.tmp 47) = .int .i64 x.u := (hA.dep 7 (by decide) 47 rfl).trans (hd 7 (by decide))
       clear hd
       exact runq_val (W' := W) (by simp [execOp, hA.const, d7, hw1, go_sem]) (Below.refl _ _) rfl
      case s9 =>
       intro val ρ W hE hz hd hA hx
       have d1 : ρ (.tmp 41) = .int .i64 K := (hA.dep 1 (by decide) 41 rfl).trans (hd 1 (by decide))
       have d8 : ρ (.tmp 48) = .int .i64 (100 * x.u) := (hA.dep 8 (by decide) 48 rfl).trans (hd 8 (by decide))
       clear hd
       exact runq_val (W' := W) (by simp [execOp, d1, d8, hw3, go_sem]) (Below.refl _ _) rfl
      case s10 =>
       intro val ρ W hE hz hd hA hx
       have o0 : ρ (.tmp 3) = .pointer (some ⟨Q, 0, none⟩) := hA.old 3 (by decide)
       clear hd
       exact runq_val (W' := W) (by simp [execOp, o0, go_sem]) (Below.refl _ _) rfl
      case send =>
       intro val W3 hE hzz hv
       obtain ⟨-, -, -, -, -, -, -, -, -, r9, r10, -⟩ := hv
       have q9 : val 9 = .int .i64 (K + 100 * x.u) := r9
       have q10 : val 10 = .pointer (some ⟨Q, 1, none⟩) := r10
       have hA3 : AccAt W3 Q ⟨I + 100 * x.u, K, 0, 0, 0, 0⟩ := HA2.out.ext hE
       have HA3 := Lib.hid hA3
       have HK3 := Lib.hid (HK2.out.trans ((Kept.of_below hE).mono (T := fun j => j ≠ Q) fun j hj _ => hj))
       clear c0x c1x cfx czx
       have hAW := hA3
       have c0x := hAW.c0
       have c1x := hAW.c1
       have cfx := fun o => hAW.fr o
       have czx := hAW.lt
       simp only at c0x c1x
       simp only [putD, q9, q10]
       go_frame
       clear hE hzz r9 r10 q9 q10 hA3 hAW k2 d2 hz hzd
       go_wp2_with fail
       go_roundw
       case rel =>
        refine ⟨k + 1, by omega, by go_num, ?_, HK3.out.setCell (fun _ h => h rfl) _⟩
        have := heap_setCell_row HA3.out 1 (.int .i64 (K + 100 * x.u))
        have e1 : b.car + sumB (fun x => 100 * x.u) (b.bets.take (k + 1)) = I + 100 * x.u := by rw [HT1.out, HI.out]; omega
        have e2 : sumB (backG b) (b.bets.take (k + 1)) = K + 100 * x.u := by rw [HT2.out, HB0.out, HKK.out]
        rw [e1, e2]
        exact this
       case measure => simp [intOf]; omega
     ·have HB0 : Hid (backG b x = 0) := Lib.hid (by rw [HBG.out]; simp)
      clear HBG
      go_wp2_with fail
      go_roundw
      case rel =>
       refine ⟨k + 1, by omega, by go_num, ?_, HK2.out⟩
       have e1 : b.car + sumB (fun x => 100 * x.u) (b.bets.take (k + 1)) = I + 100 * x.u := by rw [HT1.out, HI.out]; omega
       have e2 : sumB (backG b) (b.bets.take (k + 1)) = K := by rw [HT2.out, HB0.out, HKK.out]; omega
       rw [e1, e2]
       exact HA2.out
      case measure => simp [intOf]; omega
  ·have hki : ¬ ((k : Int) < (b.bets.length : Int)) := by omega
   have hke : k = b.bets.length := by omega
   rw [hke, List.take_length] at hacc
   obtain ⟨n1, n2, n3, n4, n5, n6⟩ := net_bd V.out
   obtain ⟨I, hI⟩ : ∃ I, I = b.car + sumB (fun x => 100 * x.u) b.bets := ⟨_, rfl⟩
   obtain ⟨K, hK⟩ : ∃ K, K = sumB (backG b) b.bets := ⟨_, rfl⟩
   obtain ⟨D, hD⟩ : ∃ D, D = dutyP b := ⟨_, rfl⟩
   rw [← hI, ← hK] at hacc
   have hI2 : inP b = I := hI.symm
   have hK2 : backP b = K := hK.symm
   rw [hI2, hK2, ← hD] at n3
   rw [hI2] at n1
   rw [hI2, hK2] at n2 n5 n6
   obtain ⟨M, hM⟩ : ∃ M, M = (I - K - b.car) * b.duty := ⟨_, rfl⟩
   rw [← hM] at n5 n6
   have hMD : M / 1000 = D := by rw [hM, hD]; unfold dutyP; rw [hI2, hK2]
   have hMt : Int.tdiv M 1000 = D := by rw [Int.tdiv_eq_ediv_of_nonneg n5]; exact hMD
   have hMM : (I - K - b.car) * b.duty = M := hM.symm
   have HNA : Hid (netA b = ⟨I, K, D, 0, 0, I - K - D⟩) := Lib.hid (by
    unfold netA netP
    rw [hI2, hK2, ← hD])
   have hr2 : AccAt wr (w.heap.size + 1) ⟨0, 0, 0, 0, 0, 0⟩ := (hkp.same _ HRA.out.lt (by omega)).trans HRA.out
   have hAW := hacc
   have c0x := hAW.c0
   have c1x := hAW.c1
   have cfx := fun o => hAW.fr o
   have czx := hAW.lt
   simp only at c0x c1x
   have c2x := hAW.c2
   have c3x := hAW.c3
   have c4x := hAW.c4
   have c5x := hAW.c5
   simp only at c2x c3x c4x c5x
   have c0z := (hr2).c0
   have c1z := (hr2).c1
   have c2z := (hr2).c2
   have c3z := (hr2).c3
   have c4z := (hr2).c4
   have c5z := (hr2).c5
   have cfz := fun o => (hr2).fr o
   have czz := (hr2).lt
   simp only at c0z c1z c2z c3z c4z c5z
   have HEW := Lib.hid hEw
   clear hI hK hD hM hI2 hK2 hMD n4 hacc hkp hEw hAW hr2 hke
   go_wp2_with fail
   refine bodyPost_ret (v := .agg #[.int .i64 I, .int .i64 K, .int .i64 D, .int .i64 0, .int .i64 0, .int .i64 (I - K - D)]) (by simp [results, Try.results45, go_sem, c0z, c1z, c2z, c3z, c4z, c5z]) rfl ?_
   refine ⟨by rw [HNA.out]; rfl, ext_set6 ((HEW.out.setCell (p := ⟨Q, 2, none⟩) (by show w.heap.size ≤ Q; omega) _).setCell (p := ⟨Q, 5, none⟩) (by show w.heap.size ≤ Q; omega) _) (Nat.le_succ _) _ _ _ _ _ _⟩
end Go.Proofs.Ytphajlldghcnnaa
namespace Go.Proofs.Ytphajlldghcnnaa
open Go.RowKit Go.Shelf
def shareQ (b : Bk) (fs : List (List Int)) : Int := if (backedL b fs).length = 0 then 0 else shareP b fs
def cntB (b : Bk) (L : List Spt) (k : Nat) : Nat := ((L.take k).filter fun s => decide (unitsP b s ≠ 0)).length
theorem cntB_succ (b : Bk) {L : List Spt} {k : Nat} (hk : k < L.length) : cntB b L (k + 1) = cntB b L k + if unitsP b L[k] ≠ 0 then 1 else 0 := by
 unfold cntB
 rw [List.take_succ_eq_append_getElem hk, List.filter_append, List.length_append]
 congr 1
 by_cases h : unitsP b L[k] = 0 <;> simp [h]
theorem cntB_le (b : Bk) (L : List Spt) (k : Nat) : cntB b L k ≤ k := by
 unfold cntB
 exact Nat.le_trans (List.length_filter_le _ _) (by rw [List.length_take]; omega)
theorem two_cells {w : World} {v : Value} {l : List Spt} (h : IsRows w 2 v (l.map twoRow)) : ∃ sa cap, v = .slice sa l.length cap ∧ l.length ≤ cap ∧ cap ≤ 9223372036854775807 ∧ ∀ i, (h : i < l.length) → ∃ lb lo, sa = some ⟨lb, lo, none⟩ ∧ ∀ W, Ext w W →
  W.cell? ⟨lb, lo + i * 2, none⟩ = some (.int .i64 l[i].1) ∧ W.cell? ⟨lb, lo + i * 2 + 1, none⟩ = some (.int .i64 l[i].2) ∧ lb < W.heap.size := by
 obtain ⟨sa, cap, h1, h2, h3, hc⟩ := twos_spec h
 refine ⟨sa, cap, h1, h2, h3, fun i hi => ?_⟩
 rcases hc with h0 | ⟨lb, lo, rfl, hc⟩
 ·rw [h0] at hi; simp at hi
 ·refine ⟨lb, lo, rfl, fun W e => ?_⟩
  have c0 := cell_ext e (hc i hi).1
  exact ⟨c0, cell_ext e (hc i hi).2, World.block_lt_of_cell? _ _ c0⟩
set_option maxRecDepth 100000 in
set_option maxHeartbeats 8000000 in
theorem shareR_any (ps : List (Value × List Int)) (fv : Value) (b : Bk) (ba sa : Option Addr) (bcap scap : Nat) (w : World) (hv : IsBook w b ba bcap sa scap) (hf : IsFin w fv ps) (hfv : FinV b (finsOf ps)) :
  Calls Try.prog 46 #[.agg #[.int .i64 b.kd, .int .i64 b.n, .slice ba b.bets.length bcap, .slice sa b.scr.length scap, .bool b.fav, .int .i64 b.car, .int .i64 b.duty, .int .i64 b.step], fv] w fun e w' => e = .returned (.int .i64 (shareQ b (finsOf ps))) ∧ Ext w w' := by
 obtain ⟨fa, fcap, rfl, hf1, hf2, -⟩ := hf.spec
 have HF := Lib.hid hf
 have V := Lib.hid hfv
 have hnet := (net_bd hfv.book).2.2.2.1
 have hnin := (net_bd hfv.book).1
 have hcar := hfv.book.car
 have hw64 := winsP_le hfv
 clear hf hfv
 have HV := Lib.hid hv
 clear hv
 go_enter Try.func46, Try.ntmps46
 go_upto_region 1 with (fail)
 obtain ⟨W0, hW0⟩ : ∃ W0, W0 = w.alloc (.cells #[.int .i64 b.kd, .int .i64 b.n, .slice ba b.bets.length bcap, .slice sa b.scr.length scap, .bool b.fav, .int .i64 b.car, .int .i64 b.duty, .int .i64 b.step] 25) := ⟨_, rfl⟩
 have hE : Ext w W0 := by rw [hW0]; exact xx
 have k0 : W0.cell? ⟨w.heap.size, 0, none⟩ = some (.int .i64 b.kd) := by rw [hW0]; simp [go_sem]
 have k1 : W0.cell? ⟨w.heap.size, 1, none⟩ = some (.int .i64 b.n) := by rw [hW0]; simp [go_sem]
 have k2 : W0.cell? ⟨w.heap.size, 2, none⟩ = some (.slice ba b.bets.length bcap) := by rw [hW0]; simp [go_sem]
 have k3 : W0.cell? ⟨w.heap.size, 3, none⟩ = some (.slice sa b.scr.length scap) := by rw [hW0]; simp [go_sem]
 have k4 : W0.cell? ⟨w.heap.size, 4, none⟩ = some (.bool b.fav) := by rw [hW0]; simp [go_sem]
 have k5 : W0.cell? ⟨w.heap.size, 5, none⟩ = some (.int .i64 b.car) := by rw [hW0]; simp [go_sem]
 have k6 : W0.cell? ⟨w.heap.size, 6, none⟩ = some (.int .i64 b.duty) := by rw [hW0]; simp [go_sem]
 have k7 : W0.cell? ⟨w.heap.size, 7, none⟩ = some (.int .i64 b.step) := by rw [hW0]; simp [go_sem]
 have hz : w.heap.size < W0.heap.size := World.block_lt_of_cell? _ _ k0
 have HS := Lib.hid (HV.out.ext hE)
 have HW := Lib.hid hE
 rw [← hW0]
 clear hW0 HV
 have HFW := Lib.hid (HF.out.ext hE)
 clear hE HF




 go_wp2_with fail
 refine callWR (W0 := W0) (g := ⟨W0, Below.refl _ _⟩) xx (winOf_any ps _ b ba sa bcap scap _ (HS.out.ext xx) (HFW.out.ext xx) V.out) (fun _ _ ⟨_, _, r, _⟩ => r) fun _ g1 hgr hr => ?_
 obtain ⟨lv, rfl, -, hown⟩ := hr
 clear hgr
 obtain ⟨L, hL⟩ : ∃ L, L = winsP b (finsOf ps) := ⟨_, rfl⟩
 rw [← hL] at hown hw64
 have HLL := Lib.hid hL
 obtain ⟨la, lc, rfl, -, -, -⟩ := two_cells hown.isRows
 have HLI := Lib.hid hown.isRows
 clear hown hL

 go_upto_region 2 with (fail)
 obtain ⟨U, hU⟩ : ∃ zz9, zz9 = (grow W0 g1) := ⟨_, rfl⟩
 have eU : Ext W0 U := by rw [hU]; exact xx
 have eUc : Ext (grow W0 g1) U := by rw [hU]; exact xx
 replace k0 := cell_ext eU k0
 replace k1 := cell_ext eU k1
 replace k2 := cell_ext eU k2
 replace k3 := cell_ext eU k3
 replace k4 := cell_ext eU k4
 replace k5 := cell_ext eU k5
 replace k6 := cell_ext eU k6
 replace k7 := cell_ext eU k7
 replace HS := Lib.hid (HS.out.ext eU)
 replace HFW := Lib.hid (HFW.out.ext eU)
 replace HLI := Lib.hid (HLI.out.ext eUc)
 replace HW := Lib.hid (HW.out.trans' eU)
 rw [← hU]
 replace hz := World.block_lt_of_cell? _ _ k0
 clear hU eU eUc
 go_wp2_with fail
 go_loopw [6, 7] (fun cv iv W => ∃ k : Nat, k ≤ L.length ∧ iv = .int .i64 k ∧ cv = .int .i64 (cntB b L k : Int) ∧ Ext U W) (fun _ iv _ => L.length - (intOf iv).toNat)
 case atStart => exact ⟨0, by omega, rfl, rfl, Below.refl _ _⟩
 case round =>
  obtain ⟨k, hk, rfl, rfl, hE⟩ := hrel
  have HE := Lib.hid hE
  have i0 := cell_ext hE k0
  have i1 := cell_ext hE k1
  have i2 := cell_ext hE k2
  have i3 := cell_ext hE k3
  have i4 := cell_ext hE k4
  have i5 := cell_ext hE k5
  have i6 := cell_ext hE k6
  have i7 := cell_ext hE k7
  have iz := World.block_lt_of_cell? _ _ i0
  simp only at iz
  have hcl := cntB_le b L k
  by_cases hlt : k < L.length
  ·have hki : (k : Int) < (L.length : Int) := by omega
   obtain ⟨_, _, e9, -, -, hcc⟩ := two_cells HLI.out
   cases e9
   obtain ⟨lb, lo, hsa9, hcd⟩ := hcc k hlt
   subst hsa9
   obtain ⟨c0, c1, hzl⟩ := hcd wr hE
   have hsucc := cntB_succ b hlt
   have hub := units_bd' V.out.book L[k]
   obtain ⟨s, hs⟩ : ∃ s, s = L[k] := ⟨_, rfl⟩
   rw [← hs] at c0 c1 hsucc hub
   obtain ⟨n, hn⟩ : ∃ n, n = unitsP b s := ⟨_, rfl⟩
   have t1 := fun W h => unitsR_any s b ba sa bcap scap W h V.out.book
   rw [← hn] at t1 hsucc hub
   have T1 := Lib.hid t1
   have HSU := Lib.hid hsucc
   obtain ⟨m, hm⟩ : ∃ m, m = cntB b L k := ⟨_, rfl⟩
   rw [← hm] at hcl hsucc ⊢
   replace HSU := Lib.hid hsucc
   have HSW := Lib.hid (HS.out.ext hE)
   clear hE hcc hcd hsucc hs hn t1 hm k0 k1 k2 k3 k4 k5 k6 k7 hz
   go_upto_region 6 with (fail)
   refine wp_region_grow (by kernel_rfl) (by kernel_rfl) ?_
   repeat (first | go_big_quiet_step ((go_at_call 47; exact grow_call (T1.out _ (HSW.out.ext (by exact xx))))) | quiet_step ((go_at_call 47; exact grow_call (T1.out _ (HSW.out.ext (by exact xx))))))
   refine wpQuiet_nil ?_
   rintro _ ⟨g, rfl⟩
   by_cases hn0 : n = 0
   ·have hng : ¬ (0 : Int) < n := by omega
    have HS2 : Hid (cntB b L (k + 1) = m) := Lib.hid (by rw [HSU.out, if_neg (by omega)]; rfl)
    clear hn0
    go_wp2_with fail
    go_roundw
    case rel => exact ⟨k + 1, by omega, by go_num, by rw [HS2.out], HE.out.trans' (grow_below wr g)⟩
    case measure => simp [intOf]; omega
   ·have hng : (0 : Int) < n := by omega
    have HS2 : Hid (cntB b L (k + 1) = m + 1) := Lib.hid (by rw [HSU.out, if_pos hn0])
    clear hn0
    go_wp2_with fail
    go_roundw
    case rel => exact ⟨k + 1, by omega, by go_num, by rw [HS2.out]; go_num, HE.out.trans' (grow_below wr g)⟩
    case measure => simp [intOf]; omega
  ·have hki : ¬ ((k : Int) < (L.length : Int)) := by omega
   have hc : cntB b L k = (backedL b (finsOf ps)).length := by
    unfold cntB backedL
    rw [show k = L.length by omega, List.take_length, HLL.out]
   obtain ⟨m, hm⟩ : ∃ m, m = cntB b L k := ⟨_, rfl⟩
   rw [← hm] at hcl hc ⊢
   have HC := Lib.hid hc
   have HSW := Lib.hid (HS.out.ext hE)
   clear hE hm hc k0 k1 k2 k3 k4 k5 k6 k7 hz
   by_cases hm0 : m = 0
   ·have HR : Hid (shareQ b (finsOf ps) = 0) := Lib.hid (by unfold shareQ; rw [← HC.out, if_pos hm0])
    have hmi : ((m : Int) == 0) = true := by rw [beq_iff_eq]; omega
    clear hm0
    go_wp2_with fail
    go_ret
    exact ⟨ret_int HR.out.symm, HW.out.trans' HE.out⟩
   ·have hmi : ((m : Int) == 0) = false := by rw [beq_eq_false_iff_ne]; omega
    have hm1 : ¬ (m : Int) = 0 := by omega
    obtain ⟨N, hN⟩ : ∃ N, N = netP b := ⟨_, rfl⟩
    rw [← hN] at hnet
    obtain ⟨R, hR⟩ : ∃ R, R = N / (m : Int) := ⟨_, rfl⟩
    have hRt : Int.tdiv N (m : Int) = R := by rw [hR]; exact Int.tdiv_eq_ediv_of_nonneg (by omega)
    have hR0 : 0 ≤ R := by rw [hR]; exact Int.ediv_nonneg (by omega) (by omega)
    have hR1 : R ≤ N := by rw [hR]; exact Int.ediv_le_self _ (by omega)
    have HR : Hid (shareQ b (finsOf ps) = R) := Lib.hid (by unfold shareQ shareP; rw [← HC.out, if_neg hm0, hR, hN])
    have t2 := fun W h => netR_any b ba sa bcap scap W h V.out.book
    unfold netA at t2
    rw [← hN] at t2
    simp only [accV, accC] at t2
    have T2 := Lib.hid t2
    have hfld : ∀ W, (Instr.field 48 (.agg #[.int .i64 (inP b), .int .i64 (backP b), .int .i64 (dutyP b), .int .i64 0, .int .i64 0, .int .i64 N]) 5).run Try.prog W = .ok (.int .i64 N) W := fun _ => by kernel_rfl
    clear hm0 hN hR t2
    go_wp2_with fail
    refine (T2.out _ (HSW.out.ext (by exact xx))).mono ?_
    rintro e Y ⟨rfl, hEY⟩
    have HEY := Lib.hid (HE.out.trans' hEY)
    clear hEY i0 i1 i2 i3 i4 i5 i6 i7 iz
    go_wp2_with fail
    go_ret
    exact ⟨ret_int HR.out.symm, HW.out.trans' HEY.out⟩
end Go.Proofs.Ytphajlldghcnnaa
namespace Go.Proofs.Ytphajlldghcnnaa
open Go.RowKit Go.Shelf
theorem div_div (S u t : Int) (hu : 0 ≤ u) : S / u / t = S / (u * t) := by
 first
  | exact Int.ediv_ediv_of_nonneg hu
  | exact Int.ediv_ediv_eq_ediv_mul S hu
  | exact Int.ediv_ediv hu
def divTo (b : Bk) (fs : List (List Int)) (L : List Spt) (k : Nat) : List Dvd := ((L.take k).filter fun s => decide (unitsP b s ≠ 0)).map fun s => (s, penceP b fs s)
theorem divTo_succ (b : Bk) (fs : List (List Int)) {L : List Spt} {k : Nat} (hk : k < L.length) : divTo b fs L (k + 1) = divTo b fs L k ++ if unitsP b L[k] ≠ 0 then [(L[k], penceP b fs L[k])] else [] := by
 unfold divTo
 rw [List.take_succ_eq_append_getElem hk, List.filter_append, List.map_append]
 congr 1
 by_cases h : unitsP b L[k] = 0 <;> simp [h]
theorem divTo_le (b : Bk) (fs : List (List Int)) (L : List Spt) (k : Nat) : (divTo b fs L k).length ≤ k := by
 unfold divTo
 rw [List.length_map]
 exact Nat.le_trans (List.length_filter_le _ _) (by rw [List.length_take]; omega)
set_option maxRecDepth 100000 in
set_option maxHeartbeats 8000000 in
theorem divOf_any (ps : List (Value × List Int)) (fv : Value) (b : Bk) (ba sa : Option Addr) (bcap scap : Nat) (w : World) (hv : IsBook w b ba bcap sa scap) (hf : IsFin w fv ps) (hfv : FinV b (finsOf ps)) :
  Calls Try.prog 71 #[.agg #[.int .i64 b.kd, .int .i64 b.n, .slice ba b.bets.length bcap, .slice sa b.scr.length scap, .bool b.fav, .int .i64 b.car, .int .i64 b.duty, .int .i64 b.step], fv] w fun e w' => ∃ v, e = .returned v ∧ Ext w w' ∧ Owns w' w.heap.size 73 3 v ((divP b (finsOf ps)).map divRow) := by
 obtain ⟨fa, fcap, rfl, hf1, hf2, -⟩ := hf.spec
 have HF := Lib.hid hf
 have V := Lib.hid hfv
 have hstp := hfv.book.step
 have hw64 := winsP_le hfv
 clear hf hfv
 have HV := Lib.hid hv
 clear hv
 go_enter Try.func71, Try.ntmps71
 go_upto_region 1 with (fail)
 obtain ⟨W0, hW0⟩ : ∃ W0, W0 = w.alloc (.cells #[.int .i64 b.kd, .int .i64 b.n, .slice ba b.bets.length bcap, .slice sa b.scr.length scap, .bool b.fav, .int .i64 b.car, .int .i64 b.duty, .int .i64 b.step] 25) := ⟨_, rfl⟩
 have hE : Ext w W0 := by rw [hW0]; exact xx
 have k0 : W0.cell? ⟨w.heap.size, 0, none⟩ = some (.int .i64 b.kd) := by rw [hW0]; simp [go_sem]
 have k1 : W0.cell? ⟨w.heap.size, 1, none⟩ = some (.int .i64 b.n) := by rw [hW0]; simp [go_sem]
 have k2 : W0.cell? ⟨w.heap.size, 2, none⟩ = some (.slice ba b.bets.length bcap) := by rw [hW0]; simp [go_sem]
 have k3 : W0.cell? ⟨w.heap.size, 3, none⟩ = some (.slice sa b.scr.length scap) := by rw [hW0]; simp [go_sem]
 have k4 : W0.cell? ⟨w.heap.size, 4, none⟩ = some (.bool b.fav) := by rw [hW0]; simp [go_sem]
 have k5 : W0.cell? ⟨w.heap.size, 5, none⟩ = some (.int .i64 b.car) := by rw [hW0]; simp [go_sem]
 have k6 : W0.cell? ⟨w.heap.size, 6, none⟩ = some (.int .i64 b.duty) := by rw [hW0]; simp [go_sem]
 have k7 : W0.cell? ⟨w.heap.size, 7, none⟩ = some (.int .i64 b.step) := by rw [hW0]; simp [go_sem]
 have hz : w.heap.size < W0.heap.size := World.block_lt_of_cell? _ _ k0
 have HS := Lib.hid (HV.out.ext hE)
 have HW := Lib.hid hE
 rw [← hW0]
 clear hW0 HV
 have HFW := Lib.hid (HF.out.ext hE)
 have hw0 := hE.size
 clear hE HF




 go_wp2_with fail
 refine callWR (W0 := W0) (g := ⟨W0, Below.refl _ _⟩) xx (winOf_any ps _ b ba sa bcap scap _ (HS.out.ext xx) (HFW.out.ext xx) V.out) (fun _ _ ⟨_, _, r, _⟩ => r) fun _ g1 hgr hr => ?_
 obtain ⟨lv, rfl, -, hown⟩ := hr
 clear hgr
 obtain ⟨L, hL⟩ : ∃ L, L = winsP b (finsOf ps) := ⟨_, rfl⟩
 rw [← hL] at hown hw64
 have HLL := Lib.hid hL
 obtain ⟨la, lc, rfl, -, -, -⟩ := two_cells hown.isRows
 have HLI := Lib.hid hown.isRows
 clear hown hL

 obtain ⟨SH, hSH⟩ : ∃ SH, SH = shareQ b (finsOf ps) := ⟨_, rfl⟩
 have HSH := Lib.hid hSH
 have t3 := fun w h1 h2 => shareR_any ps (.slice fa ps.length fcap) b ba sa bcap scap w h1 h2 V.out
 rw [← hSH] at t3
 have T3 := Lib.hid t3
 clear hSH t3
 go_wp2_with fail
 refine callW (W0 := W0) (g := g1) xx (T3.out _ (HS.out.ext xx) (HFW.out.ext xx)) fun g2 hgr => ?_
 replace HLI := Lib.hid (HLI.out.ext hgr)
 clear hgr
 go_upto_region 4 with (fail)
 obtain ⟨U, hU⟩ : ∃ zz9, zz9 = (grow W0 g2) := ⟨_, rfl⟩
 have eU : Ext W0 U := by rw [hU]; exact xx
 have eUc : Ext (grow W0 g2) U := by rw [hU]; exact xx
 replace k0 := cell_ext eU k0
 replace k1 := cell_ext eU k1
 replace k2 := cell_ext eU k2
 replace k3 := cell_ext eU k3
 replace k4 := cell_ext eU k4
 replace k5 := cell_ext eU k5
 replace k6 := cell_ext eU k6
 replace k7 := cell_ext eU k7
 replace HS := Lib.hid (HS.out.ext eU)
 replace HFW := Lib.hid (HFW.out.ext eU)
 replace HLI := Lib.hid (HLI.out.ext eUc)
 replace HW := Lib.hid (HW.out.trans' eU)
 rw [← hU]
 replace hz := World.block_lt_of_cell? _ _ k0
 clear hU eU eUc
 have hu0 : w.heap.size ≤ U.heap.size := HW.out.size
 go_wp2_with fail
 go_loopw [5, 8] (fun ov iv W => ∃ k : Nat, k ≤ L.length ∧ iv = .int .i64 k ∧ Owns W U.heap.size 73 3 ov ((divTo b (finsOf ps) L k).map divRow) ∧ Ext U W) (fun _ iv _ => L.length - (intOf iv).toNat)
 case atStart => exact ⟨0, by omega, rfl, Owns.nil _ _ _ _, Below.refl _ _⟩
 case round =>
  obtain ⟨k, hk, rfl, hown, hE⟩ := hrel
  have HE := Lib.hid hE
  have HO := Lib.hid hown
  obtain ⟨oa, on, oc, rfl⟩ := hown.isSlice
  have i0 := cell_ext hE k0
  have i1 := cell_ext hE k1
  have i2 := cell_ext hE k2
  have i3 := cell_ext hE k3
  have i4 := cell_ext hE k4
  have i5 := cell_ext hE k5
  have i6 := cell_ext hE k6
  have i7 := cell_ext hE k7
  have iz := World.block_lt_of_cell? _ _ i0
  simp only at iz
  have hcl := divTo_le b (finsOf ps) L k
  have hxz := hE.size
  by_cases hlt : k < L.length
  ·have hki : (k : Int) < (L.length : Int) := by omega
   obtain ⟨_, _, e9, -, -, hcc⟩ := two_cells HLI.out
   cases e9
   obtain ⟨lb, lo, hsa9, hcd⟩ := hcc k hlt
   subst hsa9
   obtain ⟨c0, c1, hzl⟩ := hcd wr hE
   have hzu := (hcd U (Below.refl _ _)).2.2
   have hzw := hz
   have hsucc := divTo_succ b (finsOf ps) hlt
   have hub := units_bd' V.out.book L[k]
   have hsm : L[k] ∈ winsP b (finsOf ps) := by rw [← HLL.out]; exact List.getElem_mem hlt
   obtain ⟨s, hs⟩ : ∃ s, s = L[k] := ⟨_, rfl⟩
   rw [← hs] at c0 c1 hsucc hub hsm
   obtain ⟨n, hn⟩ : ∃ n, n = unitsP b s := ⟨_, rfl⟩
   have t1 := fun W h => unitsR_any s b ba sa bcap scap W h V.out.book
   rw [← hn] at t1 hub
   have HN := Lib.hid hn
   have T1 := Lib.hid t1
   have HSU := Lib.hid hsucc
   have HSM := Lib.hid hsm
   have HSW := Lib.hid (HS.out.ext hE)
   have HC := Lib.hid hcd
   clear hown hE hcc hcd hsucc hs hn t1 hsm k0 k1 k2 k3 k4 k5 k6 k7 hz
   go_upto_region 7 with (fail)
   refine wp_region_grow (by kernel_rfl) (by kernel_rfl) ?_
   repeat (first | go_big_quiet_step ((go_at_call 47; exact grow_call (T1.out _ (HSW.out.ext (by exact xx))))) | quiet_step ((go_at_call 47; exact grow_call (T1.out _ (HSW.out.ext (by exact xx))))))
   refine wpQuiet_nil ?_
   rintro _ ⟨g, rfl⟩
   by_cases hn0 : n = 0
   ·have hng : ¬ (0 : Int) < n := by omega
    have HS2 : Hid (divTo b (finsOf ps) L (k + 1) = divTo b (finsOf ps) L k) := Lib.hid (by rw [HSU.out, if_neg (by rw [← HN.out]; omega), List.append_nil])
    clear hn0
    go_wp2_with fail
    go_roundw
    case rel => exact ⟨k + 1, by omega, by go_num, by rw [HS2.out]; exact HO.out.ext (grow_below wr g), HE.out.trans' (grow_below wr g)⟩
    case measure => simp [intOf]; omega
   ·have hng : (0 : Int) < n := by omega
    have hbm : s ∈ backedL b (finsOf ps) := by unfold backedL; exact List.mem_filter.2 ⟨HSM.out, by rw [← HN.out]; simpa using hn0⟩
    have hpl := pence_le V.out hbm
    have hshe : SH = shareP b (finsOf ps) := by
     rw [HSH.out]; unfold shareQ
     rw [if_neg (fun h => by rw [List.eq_nil_of_length_eq_zero h] at hbm; cases hbm)]
    rw [← hshe] at hpl
    obtain ⟨st, hst⟩ : ∃ st, st = b.step := ⟨_, rfl⟩
    rw [← hst] at hstp i7
    obtain ⟨P, hP⟩ : ∃ P, P = penceP b (finsOf ps) s := ⟨_, rfl⟩
    rw [← hP] at hpl
    have hS0 : 0 ≤ SH := by rw [hshe]; unfold shareP; exact Int.ediv_nonneg (by have := (net_bd V.out.book).2.2.2.1; have := V.out.book.car; omega) (by omega)
    obtain ⟨q1, hq1⟩ : ∃ q1, q1 = SH / n := ⟨_, rfl⟩
    have hq1t : Int.tdiv SH n = q1 := by rw [hq1]; exact Int.tdiv_eq_ediv_of_nonneg hS0
    have hq10 : 0 ≤ q1 ∧ q1 ≤ SH := by rw [hq1]; exact ⟨Int.ediv_nonneg hS0 (by omega), Int.ediv_le_self _ hS0⟩
    obtain ⟨q2, hq2⟩ : ∃ q2, q2 = q1 / st := ⟨_, rfl⟩
    have hq2t : Int.tdiv q1 st = q2 := by rw [hq2]; exact Int.tdiv_eq_ediv_of_nonneg hq10.1
    have hq20 : 0 ≤ q2 ∧ q2 ≤ q1 := by rw [hq2]; exact ⟨Int.ediv_nonneg hq10.1 (by omega), Int.ediv_le_self _ hq10.1⟩
    have hPe : q2 * st = P := by rw [hP, hq2, hq1]; unfold penceP; rw [← hshe, ← HN.out, ← hst, div_div _ _ _ (by omega)]
    have hwq1 : IntKind.i64.wrap (SH.tdiv n) = q1 := by rw [hq1t]; exact IntWalk.i64_in _ (by omega)
    have hwq2 : IntKind.i64.wrap (q1.tdiv st) = q2 := by rw [hq2t]; exact IntWalk.i64_in _ (by omega)
    have hwP : IntKind.i64.wrap (q2 * st) = P := by rw [hPe]; exact IntWalk.i64_in _ (by omega)
    have hnn : ¬ n = 0 := by omega
    have hsn : ¬ st = 0 := by omega
    have HS2 : Hid (divTo b (finsOf ps) L (k + 1) = divTo b (finsOf ps) L k ++ [(s, P)]) := Lib.hid (by rw [HSU.out, if_pos (by rw [← HN.out]; exact hn0), hP])
    obtain ⟨Y, hY⟩ : ∃ Y, Y = grow wr g := ⟨_, rfl⟩
    have hEY : Ext wr Y := by rw [hY]; exact grow_below wr g
    have HEY := Lib.hid (HE.out.trans' hEY)
    replace HO := Lib.hid (HO.out.ext hEY)
    replace i7 := cell_ext hEY i7
    replace iz := World.block_lt_of_cell? _ _ i7
    replace c0 := cell_ext hEY c0
    replace c1 := cell_ext hEY c1
    replace hzl := World.block_lt_of_cell? _ _ c0
    simp only at iz hzl
    have hyz := hEY.size
    rw [← hY]
    clear hn0 hbm hshe hP hq1 hq2 hq1t hq2t hPe hst hY hEY i0 i1 i2 i3 i4 i5 i6 hpl
    go_upto_region 9 with (fail)
    refine wp_region_rove_tail rfl rfl (by kernel_rfl) (U.heap.size) (by omega)
     [sqV (.slice oa on oc), sqV (.slice (some ⟨lb, lo, none⟩) L.length lc), sqV (.int .i64 k), sqV (.pointer (some ⟨lb, lo + k * 2, none⟩)), sqV (.pointer (some ⟨lb, lo + k * 2, none⟩)), sqV (.int .i64 s.1), sqV (.slice (some ⟨lb, lo, none⟩) L.length lc), sqV (.int .i64 k), sqV (.pointer (some ⟨lb, lo + k * 2, none⟩)), sqV (.pointer (some ⟨lb, lo + k * 2 + 1, none⟩)), sqV (.int .i64 s.2), sqV (.int .i64 SH), sqV (.int .i64 n), sqV (.int .i64 q1), sqV (.pointer (some ⟨w.heap.size, 7, none⟩)), sqV (.int .i64 st), sqV (.int .i64 q2), sqV (.pointer (some ⟨w.heap.size, 7, none⟩)), sqV (.int .i64 st), sqV (.int .i64 P), sqV (.agg #[.int .i64 s.1, .int .i64 s.2, .int .i64 P]), sqW (fun v W => ∃ b, v = .slice (some ⟨b, 0, none⟩) 1 1 ∧ RowsAt W 3 b 0 ([[Value.int .i64 s.1, Value.int .i64 s.2, Value.int .i64 P]])) (fun _ _ _ ⟨b, h1, h2⟩ e => ⟨b, h1, h2.ext e⟩), sqW (fun v W => Owns W U.heap.size 73 3 v ((divTo b (finsOf ps) L k).map divRow ++ [[.int .i64 s.1, .int .i64 s.2, .int .i64 P]]) ∧ Kept (fun k => some k ≠ (Value.slice oa on oc).ownBlock) Y W) (fun _ _ _ ⟨h1, h2⟩ e => ⟨h1.ext e, h2.trans (.of_below e)⟩)]
     [true, true, true, true, true, true, true, true, true, true, true, true, true, true, true, true, true, true, true, true, true, false, false] [false, false, false, false, false, false, false, false, false, false, false, false, false, false, false, false, false, false, false, false, false, false, true] [true, true, true, true, true, true, true, true, true, true, true, true, true, true, true, true, true, true, true, true, true, false, true] [true, true, true, true, true, true, true, true, true, true, true, true, true, true, true, true, true, true, true, true, true, true, true]
     (by kernel_rfl) (by kernel_rfl) (by decide +kernel) (by decide +kernel) (by decide +kernel) rfl ⟨rfl, rfl⟩ ⟨?s0, ?s1, ?s2, ?s3, ?s4, ?s5, ?s6, ?s7, ?s8, ?s9, ?s10, ?s11, ?s12, ?s13, ?s14, ?s15, ?s16, ?s17, ?s18, ?s19, ?s20, ?s21, ?s22, trivial⟩ [some 30, some 31, some 32, some 33, some 34, some 35, some 36, some 37, some 38, some 39, some 40, some 41, some 42, some 43, some 44, some 45, some 46, some 47, some 48, some 49, some 50, some 51, some 52] rfl rfl ?send
    case s0 =>
     intro val ρ W hE hz hd hA hx
     have o0 : ρ (.tmp 5) = .slice oa on oc := hA.old 5 (by decide)
     clear hd
     exact runq_val (W' := W) (by simp [execOp, o0, go_sem]) (Below.refl _ _) rfl
    case s1 =>
     intro val ρ W hE hz hd hA hx
     have o0 : ρ (.tmp 6) = .slice (some ⟨lb, lo, none⟩) L.length lc := hA.old 6 (by decide)
     clear hd
     exact runq_val (W' := W) (by simp [execOp, o0, go_sem]) (Below.refl _ _) rfl
    case s2 =>
     intro val ρ W hE hz hd hA hx
     have o0 : ρ (.tmp 8) = .int .i64 k := hA.old 8 (by decide)
     clear hd
     exact runq_val (W' := W) (by simp [execOp, o0, go_sem]) (Below.refl _ _) rfl
    case s3 =>
     intro val ρ W hE hz hd hA hx
     have d1 : ρ (.tmp 31) = .slice (some ⟨lb, lo, none⟩) L.length lc := (hA.dep 1 (by decide) 31 rfl).trans (hd 1 (by decide))
     have d2 : ρ (.tmp 32) = .int .i64 k := (hA.dep 2 (by decide) 32 rfl).trans (hd 2 (by decide))
     clear hd
     exact runq_val (W' := W) (by simp [execOp, d1, d2, hki, go_sem]) (Below.refl _ _) rfl
    case s4 =>
     intro val ρ W hE hz hd hA hx
     have d3 : ρ (.tmp 33) = .pointer (some ⟨lb, lo + k * 2, none⟩) := (hA.dep 3 (by decide) 33 rfl).trans (hd 3 (by decide))
     clear hd
     exact runq_val (W' := W) (by simp [execOp, hA.const, d3, go_sem]) (Below.refl _ _) rfl
    case s5 =>
     intro val ρ W hE hz hd hA hx
     have d4 : ρ (.tmp 34) = .pointer (some ⟨lb, lo + k * 2, none⟩) := (hA.dep 4 (by decide) 34 rfl).trans (hd 4 (by decide))
     have f_c0 := cell_below hE (by simp only; omega) c0
     clear hd
     exact runq_val (W' := W) (by simp [execOp, d4, f_c0, go_sem]) (Below.refl _ _) rfl
    case s6 =>
     intro val ρ W hE hz hd hA hx
     have o0 : ρ (.tmp 6) = .slice (some ⟨lb, lo, none⟩) L.length lc := hA.old 6 (by decide)
     clear hd
     exact runq_val (W' := W) (by simp [execOp, o0, go_sem]) (Below.refl _ _) rfl
    case s7 =>
     intro val ρ W hE hz hd hA hx
     have o0 : ρ (.tmp 8) = .int .i64 k := hA.old 8 (by decide)
     clear hd
     exact runq_val (W' := W) (by simp [execOp, o0, go_sem]) (Below.refl _ _) rfl
    case s8 =>
     intro val ρ W hE hz hd hA hx
     have d6 : ρ (.tmp 36) = .slice (some ⟨lb, lo, none⟩) L.length lc := (hA.dep 6 (by decide) 36 rfl).trans (hd 6 (by decide))
     have d7 : ρ (.tmp 37) = .int .i64 k := (hA.dep 7 (by decide) 37 rfl).trans (hd 7 (by decide))
     clear hd
     exact runq_val (W' := W) (by simp [execOp, d6, d7, hki, go_sem]) (Below.refl _ _) rfl
    case s9 =>
     intro val ρ W hE hz hd hA hx
     have d8 : ρ (.tmp 38) = .pointer (some ⟨lb, lo + k * 2, none⟩) := (hA.dep 8 (by decide) 38 rfl).trans (hd 8 (by decide))
     clear hd
     exact runq_val (W' := W) (by simp [execOp, hA.const, d8, go_sem]) (Below.refl _ _) rfl
    case s10 =>
     intro val ρ W hE hz hd hA hx
     have d9 : ρ (.tmp 39) = .pointer (some ⟨lb, lo + k * 2 + 1, none⟩) := (hA.dep 9 (by decide) 39 rfl).trans (hd 9 (by decide))
     have f_c1 := cell_below hE (by simp only; omega) c1
     clear hd
     exact runq_val (W' := W) (by simp [execOp, d9, f_c1, go_sem]) (Below.refl _ _) rfl
    case s11 =>
     intro val ρ W hE hz hd hA hx
     have o0 : ρ (.tmp 7) = .int .i64 SH := hA.old 7 (by decide)
     clear hd
     exact runq_val (W' := W) (by simp [execOp, o0, go_sem]) (Below.refl _ _) rfl
    case s12 =>
     intro val ρ W hE hz hd hA hx
     have o0 : ρ (.tmp 9) = .int .i64 n := hA.old 9 (by decide)
     clear hd
     exact runq_val (W' := W) (by simp [execOp, o0, go_sem]) (Below.refl _ _) rfl
    case s13 =>
     intro val ρ W hE hz hd hA hx
     have d11 : ρ (.tmp 41) = .int .i64 SH := (hA.dep 11 (by decide) 41 rfl).trans (hd 11 (by decide))
     have d12 : ρ (.tmp 42) = .int .i64 n := (hA.dep 12 (by decide) 42 rfl).trans (hd 12 (by decide))
     clear hd
     exact runq_val (W' := W) (by simp [execOp, d11, d12, hwq1, hnn, go_sem]) (Below.refl _ _) rfl
    case s14 =>
     intro val ρ W hE hz hd hA hx
     have o0 : ρ (.tmp 2) = .pointer (some ⟨w.heap.size, 0, none⟩) := hA.old 2 (by decide)
     clear hd
     exact runq_val (W' := W) (by simp [execOp, o0, go_sem]) (Below.refl _ _) rfl
    case s15 =>
     intro val ρ W hE hz hd hA hx
     have d14 : ρ (.tmp 44) = .pointer (some ⟨w.heap.size, 7, none⟩) := (hA.dep 14 (by decide) 44 rfl).trans (hd 14 (by decide))
     have f_i7 := cell_below hE (by simp only; omega) i7
     clear hd
     exact runq_val (W' := W) (by simp [execOp, d14, f_i7, go_sem]) (Below.refl _ _) rfl
    case s16 =>
     intro val ρ W hE hz hd hA hx
     have d13 : ρ (.tmp 43) = .int .i64 q1 := (hA.dep 13 (by decide) 43 rfl).trans (hd 13 (by decide))
     have d15 : ρ (.tmp 45) = .int .i64 st := (hA.dep 15 (by decide) 45 rfl).trans (hd 15 (by decide))
     clear hd
     exact runq_val (W' := W) (by simp [execOp, d13, d15, hwq2, hsn, go_sem]) (Below.refl _ _) rfl
    case s17 =>
     intro val ρ W hE hz hd hA hx
     have o0 : ρ (.tmp 2) = .pointer (some ⟨w.heap.size, 0, none⟩) := hA.old 2 (by decide)
     clear hd
     exact runq_val (W' := W) (by simp [execOp, o0, go_sem]) (Below.refl _ _) rfl
    case s18 =>
     intro val ρ W hE hz hd hA hx
     have d17 : ρ (.tmp 47) = .pointer (some ⟨w.heap.size, 7, none⟩) := (hA.dep 17 (by decide) 47 rfl).trans (hd 17 (by decide))
     have f_i7 := cell_below hE (by simp only; omega) i7
     clear hd
     exact runq_val (W' := W) (by simp [execOp, d17, f_i7, go_sem]) (Below.refl _ _) rfl
    case s19 =>
     intro val ρ W hE hz hd hA hx
     have d16 : ρ (.tmp 46) = .int .i64 q2 := (hA.dep 16 (by decide) 46 rfl).trans (hd 16 (by decide))
     have d18 : ρ (.tmp 48) = .int .i64 st := (hA.dep 18 (by decide) 48 rfl).trans (hd 18 (by decide))
     clear hd
     exact runq_val (W' := W) (by simp [execOp, d16, d18, hwP, go_sem]) (Below.refl _ _) rfl
    case s20 =>
     intro val ρ W hE hz hd hA hx
     have d5 : ρ (.tmp 35) = .int .i64 s.1 := (hA.dep 5 (by decide) 35 rfl).trans (hd 5 (by decide))
     have d10 : ρ (.tmp 40) = .int .i64 s.2 := (hA.dep 10 (by decide) 40 rfl).trans (hd 10 (by decide))
     have d19 : ρ (.tmp 49) = .int .i64 P := (hA.dep 19 (by decide) 49 rfl).trans (hd 19 (by decide))
     clear hd
     exact runq_val (W' := W) (by simp [execOp, d5, d10, d19, go_sem]) (Below.refl _ _) rfl
    case s21 =>
     intro val ρ W hE hz hd hA hx
     have d20 : ρ (.tmp 50) = .agg #[.int .i64 s.1, .int .i64 s.2, .int .i64 P] := (hA.dep 20 (by decide) 50 rfl).trans (hd 20 (by decide))
     clear hd hA
     refine runq_val (by simp [execOp, d20, go_sem]; exact ⟨rfl, rfl⟩) (by exact xx) ⟨_, rfl, newRows _ ([[Value.int .i64 s.1, Value.int .i64 s.2, Value.int .i64 P]]) _ _ _ 3 rfl (by simp) (by simp)⟩
    case s22 =>
     intro val ρ W hE hz hd hA hx
     have hW := hx (by decide)
     have d0 : ρ (.tmp 30) = .slice oa on oc := (hA.dep 0 (by decide) 30 rfl).trans (hd 0 (by decide))
     obtain ⟨b', e21, h21⟩ : ∃ b', val 21 = .slice (some ⟨b', 0, none⟩) 1 1 ∧ RowsAt W 3 b' 0 [[Value.int .i64 s.1, Value.int .i64 s.2, Value.int .i64 P]] := hd 21 (by decide)
     have d21 : ρ (.tmp 51) = .slice (some ⟨b', 0, none⟩) 1 1 := (hA.dep 21 (by decide) 51 rfl).trans e21
     have ho := HO.out.ext hW
     obtain ⟨v', w', hrun, h2, h3, h4⟩ := app_at elDvd 44 U.heap.size ho b' 0 1 [[Value.int .i64 s.1, Value.int .i64 s.2, Value.int .i64 P]] (by simp) h21 (by simp [Value.oneCell']) (by rw [List.length_map]; simp; omega) (by have := hW.size; omega)
     exact runq_append (.tmp 30) (.tmp 51) rfl rfl _ _ d0 d21 hrun (ho.keptBelow (by have := hW.size; omega) h3) ⟨h2, (Kept.of_below hW).trans h3⟩
    case send =>
     intro val WW hE hzz hv
     obtain ⟨-, -, -, -, -, -, -, -, -, -, -, -, -, -, -, -, -, -, -, -, -, -, ⟨h22, k22⟩, -⟩ := hv
     replace h22 : Owns WW U.heap.size 73 3 (val 22) ((divTo b (finsOf ps) L k).map divRow ++ [[.int .i64 s.1, .int .i64 s.2, .int .i64 P]]) := h22
     obtain ⟨va, vn, vc, e22⟩ := h22.isSlice
     rw [e22] at h22
     have hEW : Ext U WW := Below.trans HEY.out (HO.out.keptBelow (by omega) k22)
     have H22 := Lib.hid h22
     have HEW := Lib.hid hEW
     simp only [putD, e22]
     go_frame
     clear hE h22 e22 hzz k22 hEW c0 c1 i7
     go_wp2_with fail
     go_roundw
     case rel => exact ⟨k + 1, by omega, by go_num, by rw [HS2.out, List.map_append]; exact H22.out, HEW.out⟩
     case measure => simp [intOf]; omega
  ·have hki : ¬ ((k : Int) < (L.length : Int)) := by omega
   have HR : Hid (Owns wr U.heap.size 73 3 (.slice oa on oc) ((divP b (finsOf ps)).map divRow)) := Lib.hid (by
    have e : divTo b (finsOf ps) L k = divP b (finsOf ps) := by
     unfold divTo divP backedL
     rw [show k = L.length by omega, List.take_length, HLL.out]
    rw [← e]; exact hown)
   clear hown hE
   go_wp2_with fail
   refine bodyPost_ret (v := .slice oa on oc) (by simp [results, Try.results71, go_sem]) rfl ?_
   exact ⟨_, rfl, HW.out.trans' HE.out, HR.out.base hu0⟩
set_option maxRecDepth 100000 in
set_option maxHeartbeats 2000000 in
theorem refDiv_any (ps : List (Value × List Int)) (fv : Value) (b : Bk) (ba sa : Option Addr) (bcap scap : Nat) (w : World) (hv : IsBook w b ba bcap sa scap) (hf : IsFin w fv ps) :
  Calls Try.prog 33 #[.agg #[.int .i64 b.kd, .int .i64 b.n, .slice ba b.bets.length bcap, .slice sa b.scr.length scap, .bool b.fav, .int .i64 b.car, .int .i64 b.duty, .int .i64 b.step], fv] w (RetDiv w b (finsOf ps)) := by
 obtain ⟨fa, fcap, rfl, hf1, hf2, -⟩ := hf.spec
 have HF := Lib.hid hf
 clear hf
 have HV := Lib.hid hv
 clear hv
 go_enter Try.func33, Try.ntmps33
 go_upto_region 1 with (fail)
 obtain ⟨W0, hW0⟩ : ∃ W0, W0 = w.alloc (.cells #[.int .i64 b.kd, .int .i64 b.n, .slice ba b.bets.length bcap, .slice sa b.scr.length scap, .bool b.fav, .int .i64 b.car, .int .i64 b.duty, .int .i64 b.step] 25) := ⟨_, rfl⟩
 have hE : Ext w W0 := by rw [hW0]; exact xx
 have k0 : W0.cell? ⟨w.heap.size, 0, none⟩ = some (.int .i64 b.kd) := by rw [hW0]; simp [go_sem]
 have k1 : W0.cell? ⟨w.heap.size, 1, none⟩ = some (.int .i64 b.n) := by rw [hW0]; simp [go_sem]
 have k2 : W0.cell? ⟨w.heap.size, 2, none⟩ = some (.slice ba b.bets.length bcap) := by rw [hW0]; simp [go_sem]
 have k3 : W0.cell? ⟨w.heap.size, 3, none⟩ = some (.slice sa b.scr.length scap) := by rw [hW0]; simp [go_sem]
 have k4 : W0.cell? ⟨w.heap.size, 4, none⟩ = some (.bool b.fav) := by rw [hW0]; simp [go_sem]
 have k5 : W0.cell? ⟨w.heap.size, 5, none⟩ = some (.int .i64 b.car) := by rw [hW0]; simp [go_sem]
 have k6 : W0.cell? ⟨w.heap.size, 6, none⟩ = some (.int .i64 b.duty) := by rw [hW0]; simp [go_sem]
 have k7 : W0.cell? ⟨w.heap.size, 7, none⟩ = some (.int .i64 b.step) := by rw [hW0]; simp [go_sem]
 have hz : w.heap.size < W0.heap.size := World.block_lt_of_cell? _ _ k0
 have HS := Lib.hid (HV.out.ext hE)
 have HW := Lib.hid hE
 rw [← hW0]
 clear hW0 HV
 have HFW := Lib.hid (HF.out.ext hE)
 clear hE HF




 go_wp2_with fail
 refine callW (W0 := W0) (g := ⟨W0, Below.refl _ _⟩) xx (refFin_any ps _ b ba sa bcap scap _ (HS.out.ext xx) (HFW.out.ext xx)) fun g1 hgr => ?_
 clear hgr
 obtain ⟨er, her⟩ : ∃ er, er = finErr b (finsOf ps) := ⟨_, rfl⟩
 rw [← her]

 by_cases h0 : er = 0
 rotate_left
 ·have f1 : (er != 0) = true := by simpa using h0
  have HER := Lib.hid her
  have HNE := Lib.hid h0
  clear her h0
  go_wp2_with fail
  refine callW (W0 := W0) (g := g1) xx (refFin_any ps _ b ba sa bcap scap _ (HS.out.ext xx) (HFW.out.ext xx)) fun g2 hgr => ?_
  clear hgr
  rw [← HER.out]
  go_wp2_with fail
  refine bodyPost_ret (v := .tuple #[.slice none 0 0, .int .i64 er]) (by simp [results, Try.results33, go_sem]) rfl ?_
  have e1 : divErr b (finsOf ps) = er := by unfold divErr; rw [← HER.out, if_pos HNE.out]
  have e2 : divL b (finsOf ps) = [] := by unfold divL; rw [← HER.out, if_neg HNE.out]
  exact ⟨HW.out.trans' (grow_below W0 _), _, by rw [e1], by rw [e2]; exact ⟨none, 0, rfl, by simp, by simp, .inl rfl⟩⟩

 subst h0
 have H0 := Lib.hid her.symm
 clear her
 go_wp2_with fail
 refine callWR (W0 := W0) (g := g1) xx (divOf_any ps _ b ba sa bcap scap _ (HS.out.ext xx) (HFW.out.ext xx) (finV_of H0.out)) (fun _ _ ⟨_, _, r, _⟩ => r) fun _ g3 hgr hr => ?_
 obtain ⟨v, rfl, -, hown⟩ := hr
 clear hgr
 obtain ⟨L, hL⟩ : ∃ L, L = divP b (finsOf ps) := ⟨_, rfl⟩
 rw [← hL] at hown
 obtain ⟨la, lc, rfl, -, -, -⟩ := divs_spec hown.isRows
 have HO := Lib.hid hown
 have HL := Lib.hid hL
 clear hown hL
 by_cases hl : L.length = 0
 ·have hli : ((L.length : Int) == 0) = true := by rw [beq_iff_eq]; omega
  have HE : Hid (divP b (finsOf ps) = []) := Lib.hid (by rw [← HL.out]; exact List.eq_nil_of_length_eq_zero hl)
  clear hl
  go_wp2_with fail
  refine bodyPost_ret (v := .tuple #[.slice none 0 0, .int .i64 19]) (by simp [results, Try.results33, go_sem]) rfl ?_
  have e1 : divErr b (finsOf ps) = 19 := by unfold divErr; rw [if_neg (fun h => h H0.out), if_pos HE.out]
  have e2 : divL b (finsOf ps) = [] := by unfold divL; rw [if_pos H0.out, HE.out]
  exact ⟨HW.out.trans' (grow_below W0 _), _, by rw [e1], by rw [e2]; exact ⟨none, 0, rfl, by simp, by simp, .inl rfl⟩⟩
 ·have hli : ((L.length : Int) == 0) = false := by rw [beq_eq_false_iff_ne]; omega
  have HE : Hid (¬ divP b (finsOf ps) = []) := Lib.hid (by rw [← HL.out]; exact fun h => hl (by rw [h]; rfl))
  clear hl
  go_wp2_with fail
  refine bodyPost_ret (v := .tuple #[.slice la L.length lc, .int .i64 0]) (by simp [results, Try.results33, go_sem]) rfl ?_
  have e1 : divErr b (finsOf ps) = 0 := by unfold divErr; rw [if_neg (fun h => h H0.out), if_neg HE.out]
  have e2 : divL b (finsOf ps) = L := by unfold divL; rw [if_pos H0.out, HL.out]
  exact ⟨HW.out.trans' (grow_below W0 _), _, by rw [e1], by rw [e2]; exact HO.out.isRows⟩
end Go.Proofs.Ytphajlldghcnnaa
namespace Go.Proofs.Ytphajlldghcnnaa
open Go.RowKit Go.Shelf
theorem dvd_cells {w : World} {v : Value} {l : List Dvd} (h : IsRows w 3 v (l.map divRow)) : ∃ sa cap, v = .slice sa l.length cap ∧ l.length ≤ cap ∧ cap ≤ 9223372036854775807 ∧ ∀ i, (h : i < l.length) → ∃ lb lo, sa = some ⟨lb, lo, none⟩ ∧ ∀ W, Ext w W →
  W.cell? ⟨lb, lo + i * 3, none⟩ = some (.int .i64 l[i].1.1) ∧ W.cell? ⟨lb, lo + i * 3 + 1, none⟩ = some (.int .i64 l[i].1.2) ∧ W.cell? ⟨lb, lo + i * 3 + 2, none⟩ = some (.int .i64 l[i].2) ∧ lb < W.heap.size := by
 obtain ⟨sa, cap, h1, h2, h3, hc⟩ := divs_spec h
 refine ⟨sa, cap, h1, h2, h3, fun i hi => ?_⟩
 rcases hc with h0 | ⟨lb, lo, rfl, hc⟩
 ·rw [h0] at hi; simp at hi
 ·refine ⟨lb, lo, rfl, fun W e => ?_⟩
  have c0 := cell_ext e (hc i hi).1
  exact ⟨c0, cell_ext e (hc i hi).2.1, cell_ext e (hc i hi).2.2, World.block_lt_of_cell? _ _ c0⟩
set_option maxRecDepth 100000 in
set_option maxHeartbeats 8000000 in
theorem accOf_any (ps : List (Value × List Int)) (fv : Value) (b : Bk) (ba sa : Option Addr) (bcap scap : Nat) (w : World) (hv : IsBook w b ba bcap sa scap) (hf : IsFin w fv ps) (hfv : FinV b (finsOf ps)) :
  Calls Try.prog 73 #[.agg #[.int .i64 b.kd, .int .i64 b.n, .slice ba b.bets.length bcap, .slice sa b.scr.length scap, .bool b.fav, .int .i64 b.car, .int .i64 b.duty, .int .i64 b.step], fv] w fun e w' => e = .returned (accV (accA b (finsOf ps))) ∧ Ext w w' := by
 obtain ⟨fa, fcap, rfl, hf1, hf2, -⟩ := hf.spec
 have HF := Lib.hid hf
 have HV := Lib.hid hv
 have V := Lib.hid hfv
 have hd64 := divP_le hfv
 clear hf hfv hv
 go_enter Try.func73, Try.ntmps73
 go_upto_region 1 with (fail)
 obtain ⟨W0, hW0⟩ : ∃ W0, W0 = (w.alloc (.cells #[.int .i64 b.kd, .int .i64 b.n, .slice ba b.bets.length bcap, .slice sa b.scr.length scap, .bool b.fav, .int .i64 b.car, .int .i64 b.duty, .int .i64 b.step] 25)).alloc (.cells #[.int .i64 0, .int .i64 0, .int .i64 0, .int .i64 0, .int .i64 0, .int .i64 0] 48) := ⟨_, rfl⟩
 have hE0 : Ext w W0 := by rw [hW0]; exact xx
 have hbk0 : BookAt W0 w.heap.size b ba bcap sa scap := by rw [hW0]; constructor <;> simp [go_sem]
 have hra : AccAt W0 (w.heap.size + 1) ⟨0, 0, 0, 0, 0, 0⟩ := by
  rw [hW0]
  have := World.alloc_heap_new (w.alloc (.cells #[.int .i64 b.kd, .int .i64 b.n, .slice ba b.bets.length bcap, .slice sa b.scr.length scap, .bool b.fav, .int .i64 b.car, .int .i64 b.duty, .int .i64 b.step] 25)) (.cells #[.int .i64 0, .int .i64 0, .int .i64 0, .int .i64 0, .int .i64 0, .int .i64 0] 48)
  rwa [World.size_alloc] at this
 rw [← hW0]
 have k0 := (hbk0).c0
 have k1 := (hbk0).c1
 have k2 := (hbk0).c2
 have k3 := (hbk0).c3
 have k4 := (hbk0).c4
 have k5 := (hbk0).c5
 have k6 := (hbk0).c6
 have k7 := (hbk0).c7
 have hz := (hbk0).lt
 clear hW0
 obtain ⟨A0, hA0⟩ : ∃ A0, A0 = netA b := ⟨_, rfl⟩
 have t1 := fun W h => netR_any b ba sa bcap scap W h V.out.book
 rw [← hA0] at t1
 simp only [accV, accC] at t1
 go_wp2_with fail
 refine (t1 _ (HV.out.ext hE0)).mono ?_
 rintro e W1 ⟨rfl, hE1⟩
 have HA0 := Lib.hid hA0
 clear t1 hA0 k0 k1 k2 k3 k4 k5 k6 k7 hz
 go_upto_region 2 with (fail)
 obtain ⟨X, hX⟩ : ∃ X, X = W1.alloc (.cells #[.int .i64 A0.i, .int .i64 A0.k, .int .i64 A0.d, .int .i64 A0.p, .int .i64 A0.q, .int .i64 A0.o] 48) := ⟨_, rfl⟩
 rw [← hX]
 obtain ⟨Q, hQ⟩ : ∃ Q, Q = W1.heap.size := ⟨_, rfl⟩
 rw [← hQ]
 have hE2 : Ext W1 X := by rw [hX]; exact xx
 have hQX : AccAt X Q A0 := by rw [hX, hQ]; exact World.alloc_heap_new W1 _
 have hz0 := hra.lt
 have hz1 := hE1.size
 have hE3 := (hE0.trans' hE1).trans' hE2
 have hbk := hbk0.ext (hE1.trans' hE2)
 have HBK := Lib.hid hbk
 have hrX := hra.ext (hE1.trans' hE2)
 have HRA := Lib.hid hrX
 have HQX := Lib.hid hQX
 have HW := Lib.hid hE3
 have hqw : w.heap.size + 2 ≤ Q := by omega
 have k0 := (hbk).c0
 have k1 := (hbk).c1
 have k2 := (hbk).c2
 have k3 := (hbk).c3
 have k4 := (hbk).c4
 have k5 := (hbk).c5
 have k6 := (hbk).c6
 have k7 := (hbk).c7
 have hz := (hbk).lt
 clear hX hQ hE0 hE1 hE2 hE3 hbk0 hra hQX hbk hrX
 go_wp2_with fail
 refine (divOf_any ps _ b ba sa bcap scap _ (HV.out.ext (HW.out.trans' (by exact xx))) (HF.out.ext (HW.out.trans' (by exact xx))) V.out).mono ?_
 rintro e Y ⟨lv, rfl, hEY, hown⟩
 obtain ⟨L, hL⟩ : ∃ L, L = divP b (finsOf ps) := ⟨_, rfl⟩
 rw [← hL] at hown hd64
 obtain ⟨la, lc, rfl, hlc1, hlc2, -⟩ := dvd_cells hown.isRows
 have HLI := Lib.hid hown.isRows
 have HNEW : Hid (∀ g o, la = some ⟨g, o, none⟩ → X.heap.size ≤ g) := Lib.hid (by
  obtain ⟨sa', cap', e1, -, -, h3⟩ := hown.form
  simp only [Value.slice.injEq] at e1
  obtain ⟨rfl, -, -⟩ := e1
  intro g o hg
  rcases h3 with ⟨-, h4, -⟩ | ⟨g', h4, h5, -⟩
  ·rw [h4] at hg; cases hg
  ·rw [h4] at hg; cases hg; exact h5)
 have HL := Lib.hid hL
 have HQY := Lib.hid (HQX.out.ext hEY)
 have HRY := Lib.hid (HRA.out.ext hEY)
 have HBY := Lib.hid (HBK.out.ext hEY)
 have HWY := Lib.hid (HW.out.trans' hEY)
 have hqx := HQX.out.lt
 have hxy := hEY.size
 clear hown hL hEY k0 k1 k2 k3 k4 k5 k6 k7 hz
 by_cases hl : L.length = 0
 ·have hli : ((L.length : Int) == 0) = true := by rw [beq_iff_eq]; omega
  have HAA : Hid (accA b (finsOf ps) = A0) := Lib.hid (by unfold accA; rw [if_pos (by rw [← HL.out]; exact List.eq_nil_of_length_eq_zero hl), HA0.out])
  have hq := HQY.out
  have hAW := hq
  have c0x := hAW.c0
  have c1x := hAW.c1
  have cfx := fun o => hAW.fr o
  have czx := hAW.lt
  have c2x := hAW.c2
  have c3x := hAW.c3
  have c4x := hAW.c4
  have c5x := hAW.c5
  have hr2 := HRY.out
  have c0z := (hr2).c0
  have c1z := (hr2).c1
  have c2z := (hr2).c2
  have c3z := (hr2).c3
  have c4z := (hr2).c4
  have c5z := (hr2).c5
  have cfz := fun o => (hr2).fr o
  have czz := (hr2).lt
  simp only at c0z c1z c2z c3z c4z c5z
  clear hl hq hr2 hAW
  go_wp2_with fail
  refine bodyPost_ret (v := .agg #[.int .i64 A0.i, .int .i64 A0.k, .int .i64 A0.d, .int .i64 A0.p, .int .i64 A0.q, .int .i64 A0.o]) (by simp [results, Try.results73, go_sem, c0z, c1z, c2z, c3z, c4z, c5z]) rfl ?_
  exact ⟨by rw [HAA.out]; rfl, ext_set6 HWY.out (Nat.le_succ _) _ _ _ _ _ _⟩
 have hli : ((L.length : Int) == 0) = false := by rw [beq_eq_false_iff_ne]; omega
 have hl0 : ¬ L = [] := fun h => hl (by rw [h]; rfl)
 have HL0 := Lib.hid hl0
 have HAE : Hid (A0 = ⟨inP b, backP b, dutyP b, 0, 0, netP b⟩) := Lib.hid (by rw [HA0.out]; rfl)
 clear hl hl0
 go_wp2_with fail
 go_loopw [7] (fun iv W => ∃ k : Nat, k ≤ L.length ∧ iv = .int .i64 k ∧ AccAt W Q { A0 with p := paidTo b (L.take k) } ∧ Kept (fun j => j ≠ Q) Y W) (fun iv _ => L.length - (intOf iv).toNat)
 case atStart => exact ⟨0, by omega, rfl, by have := HQY.out; rw [HAE.out] at this ⊢; simpa [paidTo] using this, Kept.refl _ _⟩
 case round =>
  obtain ⟨k, hk, rfl, hacc, hkp⟩ := hrel
  have HK := Lib.hid hkp
  have hEw : Ext w wr := ext_kept HWY.out hkp (by omega)
  have k0 := hkp.cell HBY.out.c0 (by simp only; omega)
  have k1 := hkp.cell HBY.out.c1 (by simp only; omega)
  have k2 := hkp.cell HBY.out.c2 (by simp only; omega)
  have k3 := hkp.cell HBY.out.c3 (by simp only; omega)
  have k4 := hkp.cell HBY.out.c4 (by simp only; omega)
  have k5 := hkp.cell HBY.out.c5 (by simp only; omega)
  have k6 := hkp.cell HBY.out.c6 (by simp only; omega)
  have k7 := hkp.cell HBY.out.c7 (by simp only; omega)
  have hz := World.block_lt_of_cell? _ _ k0
  simp only at hz
  by_cases hlt : k < L.length
  ·have hki : (k : Int) < (L.length : Int) := by omega
   obtain ⟨_, _, e, -, -, hcc⟩ := dvd_cells HLI.out
   cases e
   obtain ⟨lb, lo, rfl, hc2⟩ := hcc k hlt
   obtain ⟨e0, e1, e2, -⟩ := hc2 Y (Below.refl _ _)
   have hlb : X.heap.size ≤ lb := HNEW.out lb lo rfl
   have d0 := hkp.cell e0 (by simp only; omega)
   have d1 := hkp.cell e1 (by simp only; omega)
   have d2 := hkp.cell e2 (by simp only; omega)
   obtain ⟨x0, hx0⟩ : ∃ x, x = L[k].1.1 := ⟨_, rfl⟩
   obtain ⟨x1, hx1⟩ : ∃ x, x = L[k].1.2 := ⟨_, rfl⟩
   obtain ⟨x2, hx2⟩ : ∃ x, x = L[k].2 := ⟨_, rfl⟩
   rw [← hx0] at d0
   rw [← hx1] at d1
   rw [← hx2] at d2
   have hzd := World.block_lt_of_cell? _ _ d0
   simp only at hzd
   have hpt := paidTo_take (b := b) hlt
   have hxs : L[k].1 = (x0, x1) := by rw [hx0, hx1]
   rw [hxs, ← hx2] at hpt
   obtain ⟨u, hu⟩ : ∃ u, u = unitsP b (x0, x1) := ⟨_, rfl⟩
   rw [← hu] at hpt
   have hb0 := paidTo_bd V.out k
   have hb1 := paidTo_bd V.out (k + 1)
   rw [← HL.out] at hb0 hb1
   have hm : L[k] ∈ divP b (finsOf ps) := by rw [← HL.out]; exact List.getElem_mem hlt
   have hpu : 0 ≤ x2 * u ∧ x2 * u ≤ 11000000 := by
    unfold divP at hm
    obtain ⟨s, hs, e⟩ := List.mem_map.1 hm
    have h1 := pence_le V.out hs
    rw [← e] at hxs hx2
    simp only at hxs hx2
    subst hxs
    rw [hx2, hu]
    omega
   obtain ⟨A, hA⟩ : ∃ A, A = x2 * u := ⟨_, rfl⟩
   rw [← hA] at hpu hpt
   obtain ⟨P0, hP0⟩ : ∃ P0, P0 = paidTo b (L.take k) := ⟨_, rfl⟩
   rw [← hP0] at hb0 hpt hacc
   rw [hpt] at hb1
   have hw1 : IntKind.i64.wrap (x2 * u) = A := by rw [← hA]; exact IntWalk.i64_in _ (by omega)
   have hw2 : IntKind.i64.wrap (P0 + A) = P0 + A := IntWalk.i64_in _ (by omega)
   have HPT := Lib.hid hpt
   have HU := Lib.hid hu
   have HA := Lib.hid hacc
   have t9 := fun W h => unitsR_any (x0, x1) b ba sa bcap scap W h V.out.book
   rw [← hu] at t9
   simp only at t9
   have HON := Lib.hid t9
   have HSW := Lib.hid (HV.out.ext hEw)
   have p3 : wr.cell? ⟨Q, 3, none⟩ = some (.int .i64 P0) := hacc.c3
   have hqr := hacc.lt
   clear hcc hc2 e0 e1 e2 hpt hm hA hP0 hu hxs hx0 hx1 hx2 hkp hEw hb0 hb1 t9 hacc
   go_upto_region 8 with (fail)
   refine wp_region_rove_tail rfl rfl (by kernel_rfl) (wr.heap.size) (Nat.le_refl _)
    [sqV (.pointer (some ⟨Q, 3, none⟩)), sqV (.int .i64 P0), sqV (.slice (some ⟨lb, lo, none⟩) L.length lc), sqV (.int .i64 k), sqV (.pointer (some ⟨lb, lo + k * 3, none⟩)), sqV (.pointer (some ⟨lb, lo + k * 3 + 2, none⟩)), sqV (.int .i64 x2), sqV (.agg #[.int .i64 b.kd, .int .i64 b.n, .slice ba b.bets.length bcap, .slice sa b.scr.length scap, .bool b.fav, .int .i64 b.car, .int .i64 b.duty, .int .i64 b.step]), sqV (.slice (some ⟨lb, lo, none⟩) L.length lc), sqV (.int .i64 k), sqV (.pointer (some ⟨lb, lo + k * 3, none⟩)), sqV (.pointer (some ⟨lb, lo + k * 3, none⟩)), sqV (.int .i64 x0), sqV (.slice (some ⟨lb, lo, none⟩) L.length lc), sqV (.int .i64 k), sqV (.pointer (some ⟨lb, lo + k * 3, none⟩)), sqV (.pointer (some ⟨lb, lo + k * 3 + 1, none⟩)), sqV (.int .i64 x1), sqV (.agg #[.int .i64 x0, .int .i64 x1]), sqV (.int .i64 u), sqV (.int .i64 A), sqV (.int .i64 (P0 + A)), sqV (.pointer (some ⟨Q, 3, none⟩))]
    [true, true, true, true, true, true, true, true, true, true, true, true, true, true, true, true, true, true, true, true, true, true, true] [false, false, false, false, false, false, false, false, false, false, false, false, false, false, false, false, false, false, false, false, false, false, false] [true, true, true, true, true, true, true, true, true, true, true, true, true, true, true, true, true, true, true, true, true, true, true] [true, true, true, true, true, true, true, true, true, true, true, true, true, true, true, true, true, true, true, true, true, true, true]
    (by kernel_rfl) (by kernel_rfl) (by decide +kernel) (by decide +kernel) (by decide +kernel) rfl ⟨rfl, rfl⟩ ⟨?s0, ?s1, ?s2, ?s3, ?s4, ?s5, ?s6, ?s7, ?s8, ?s9, ?s10, ?s11, ?s12, ?s13, ?s14, ?s15, ?s16, ?s17, ?s18, ?s19, ?s20, ?s21, ?s22, trivial⟩ [some 23, some 24, some 25, some 26, some 27, some 28, some 29, some 30, some 31, some 32, some 33, some 34, some 35, some 36, some 37, some 38, some 39, some 40, some 41, some 42, some 43, some 44, some 45] rfl rfl ?send
   case s0 =>
    intro val ρ W hE hz hd hA hx
    have o0 : ρ (.tmp 5) = .pointer (some ⟨Q, 0, none⟩) := hA.old 5 (by decide)
    clear hd
    exact runq_val (W' := W) (by simp [execOp, o0, go_sem]) (Below.refl _ _) rfl
   case s1 =>
    intro val ρ W hE hz hd hA hx
    have d0 : ρ (.tmp 23) = .pointer (some ⟨Q, 3, none⟩) := (hA.dep 0 (by decide) 23 rfl).trans (hd 0 (by decide))
    have f_p3 := cell_below hE (by simp only; omega) p3
    clear hd
    exact runq_val (W' := W) (by simp [execOp, d0, f_p3, go_sem]) (Below.refl _ _) rfl
   case s2 =>
    intro val ρ W hE hz hd hA hx
    have o0 : ρ (.tmp 6) = .slice (some ⟨lb, lo, none⟩) L.length lc := hA.old 6 (by decide)
    clear hd
    exact runq_val (W' := W) (by simp [execOp, o0, go_sem]) (Below.refl _ _) rfl
   case s3 =>
    intro val ρ W hE hz hd hA hx
    have o0 : ρ (.tmp 7) = .int .i64 k := hA.old 7 (by decide)
    clear hd
    exact runq_val (W' := W) (by simp [execOp, o0, go_sem]) (Below.refl _ _) rfl
   case s4 =>
    intro val ρ W hE hz hd hA hx
    have d2 : ρ (.tmp 25) = .slice (some ⟨lb, lo, none⟩) L.length lc := (hA.dep 2 (by decide) 25 rfl).trans (hd 2 (by decide))
    have d3 : ρ (.tmp 26) = .int .i64 k := (hA.dep 3 (by decide) 26 rfl).trans (hd 3 (by decide))
    clear hd
    exact runq_val (W' := W) (by simp [execOp, d2, d3, hki, go_sem]) (Below.refl _ _) rfl
   case s5 =>
    intro val ρ W hE hz hd hA hx
    have d4 : ρ (.tmp 27) = .pointer (some ⟨lb, lo + k * 3, none⟩) := (hA.dep 4 (by decide) 27 rfl).trans (hd 4 (by decide))
    clear hd
    exact runq_val (W' := W) (by simp [execOp, d4, go_sem]) (Below.refl _ _) rfl
   case s6 =>
    intro val ρ W hE hz hd hA hx
    have d5 : ρ (.tmp 28) = .pointer (some ⟨lb, lo + k * 3 + 2, none⟩) := (hA.dep 5 (by decide) 28 rfl).trans (hd 5 (by decide))
    have f_d2 := cell_below hE (by simp only; omega) d2
    clear hd
    exact runq_val (W' := W) (by simp [execOp, d5, f_d2, go_sem]) (Below.refl _ _) rfl
   case s7 =>
    intro val ρ W hE hz hd hA hx
    have o0 : ρ (.tmp 2) = .pointer (some ⟨w.heap.size, 0, none⟩) := hA.old 2 (by decide)
    have f_k0 := cell_below hE (by simp only; omega) k0
    have f_k1 := cell_below hE (by simp only; omega) k1
    have f_k2 := cell_below hE (by simp only; omega) k2
    have f_k3 := cell_below hE (by simp only; omega) k3
    have f_k4 := cell_below hE (by simp only; omega) k4
    have f_k5 := cell_below hE (by simp only; omega) k5
    have f_k6 := cell_below hE (by simp only; omega) k6
    have f_k7 := cell_below hE (by simp only; omega) k7
    clear hd
    exact runq_val (W' := W) (by simp [execOp, o0, f_k0, f_k1, f_k2, f_k3, f_k4, f_k5, f_k6, f_k7, go_sem]) (Below.refl _ _) rfl
   case s8 =>
    intro val ρ W hE hz hd hA hx
    have o0 : ρ (.tmp 6) = .slice (some ⟨lb, lo, none⟩) L.length lc := hA.old 6 (by decide)
    clear hd
    exact runq_val (W' := W) (by simp [execOp, o0, go_sem]) (Below.refl _ _) rfl
   case s9 =>
    intro val ρ W hE hz hd hA hx
    have o0 : ρ (.tmp 7) = .int .i64 k := hA.old 7 (by decide)
    clear hd
    exact runq_val (W' := W) (by simp [execOp, o0, go_sem]) (Below.refl _ _) rfl
   case s10 =>
    intro val ρ W hE hz hd hA hx
    have d8 : ρ (.tmp 31) = .slice (some ⟨lb, lo, none⟩) L.length lc := (hA.dep 8 (by decide) 31 rfl).trans (hd 8 (by decide))
    have d9 : ρ (.tmp 32) = .int .i64 k := (hA.dep 9 (by decide) 32 rfl).trans (hd 9 (by decide))
    clear hd
    exact runq_val (W' := W) (by simp [execOp, d8, d9, hki, go_sem]) (Below.refl _ _) rfl
   case s11 =>
    intro val ρ W hE hz hd hA hx
    have d10 : ρ (.tmp 33) = .pointer (some ⟨lb, lo + k * 3, none⟩) := (hA.dep 10 (by decide) 33 rfl).trans (hd 10 (by decide))
    clear hd
    exact runq_val (W' := W) (by simp [execOp, d10, go_sem]) (Below.refl _ _) rfl
   case s12 =>
    intro val ρ W hE hz hd hA hx
    have d11 : ρ (.tmp 34) = .pointer (some ⟨lb, lo + k * 3, none⟩) := (hA.dep 11 (by decide) 34 rfl).trans (hd 11 (by decide))
    have f_d0 := cell_below hE (by simp only; omega) d0
    clear hd
    exact runq_val (W' := W) (by simp [execOp, d11, f_d0, go_sem]) (Below.refl _ _) rfl
   case s13 =>
    intro val ρ W hE hz hd hA hx
    have o0 : ρ (.tmp 6) = .slice (some ⟨lb, lo, none⟩) L.length lc := hA.old 6 (by decide)
    clear hd
    exact runq_val (W' := W) (by simp [execOp, o0, go_sem]) (Below.refl _ _) rfl
   case s14 =>
    intro val ρ W hE hz hd hA hx
    have o0 : ρ (.tmp 7) = .int .i64 k := hA.old 7 (by decide)
    clear hd
    exact runq_val (W' := W) (by simp [execOp, o0, go_sem]) (Below.refl _ _) rfl
   case s15 =>
    intro val ρ W hE hz hd hA hx
    have d13 : ρ (.tmp 36) = .slice (some ⟨lb, lo, none⟩) L.length lc := (hA.dep 13 (by decide) 36 rfl).trans (hd 13 (by decide))
    have d14 : ρ (.tmp 37) = .int .i64 k := (hA.dep 14 (by decide) 37 rfl).trans (hd 14 (by decide))
    clear hd
    exact runq_val (W' := W) (by simp [execOp, d13, d14, hki, go_sem]) (Below.refl _ _) rfl
   case s16 =>
    intro val ρ W hE hz hd hA hx
    have d15 : ρ (.tmp 38) = .pointer (some ⟨lb, lo + k * 3, none⟩) := (hA.dep 15 (by decide) 38 rfl).trans (hd 15 (by decide))
    clear hd
    exact runq_val (W' := W) (by simp [execOp, d15, go_sem]) (Below.refl _ _) rfl
   case s17 =>
    intro val ρ W hE hz hd hA hx
    have d16 : ρ (.tmp 39) = .pointer (some ⟨lb, lo + k * 3 + 1, none⟩) := (hA.dep 16 (by decide) 39 rfl).trans (hd 16 (by decide))
    have f_d1 := cell_below hE (by simp only; omega) d1
    clear hd
    exact runq_val (W' := W) (by simp [execOp, d16, f_d1, go_sem]) (Below.refl _ _) rfl
   case s18 =>
    intro val ρ W hE hz hd hA hx
    have d12 : ρ (.tmp 35) = .int .i64 x0 := (hA.dep 12 (by decide) 35 rfl).trans (hd 12 (by decide))
    have d17 : ρ (.tmp 40) = .int .i64 x1 := (hA.dep 17 (by decide) 40 rfl).trans (hd 17 (by decide))
    clear hd
    exact runq_val (W' := W) (by simp [execOp, d12, d17, go_sem]) (Below.refl _ _) rfl
   case s19 =>
    intro val ρ W hE hz hd hA hx
    have d7 : ρ (.tmp 30) = .agg #[.int .i64 b.kd, .int .i64 b.n, .slice ba b.bets.length bcap, .slice sa b.scr.length scap, .bool b.fav, .int .i64 b.car, .int .i64 b.duty, .int .i64 b.step] := (hA.dep 7 (by decide) 30 rfl).trans (hd 7 (by decide))
    have d18 : ρ (.tmp 41) = .agg #[.int .i64 x0, .int .i64 x1] := (hA.dep 18 (by decide) 41 rfl).trans (hd 18 (by decide))
    clear hd
    refine runq_call 47 _ _ rfl #[.agg #[.int .i64 b.kd, .int .i64 b.n, .slice ba b.bets.length bcap, .slice sa b.scr.length scap, .bool b.fav, .int .i64 b.car, .int .i64 b.duty, .int .i64 b.step], .agg #[.int .i64 x0, .int .i64 x1]] (hA.func _) (by simp [d7, d18]) (fun args W => Try.call47 args W) ((HON.out W (HSW.out.ext hE)).mono ?_)
    rintro e w' ⟨rfl, hb⟩
    exact ⟨_, rfl, hb, rfl⟩
   case s20 =>
    intro val ρ W hE hz hd hA hx
    have d6 : ρ (.tmp 29) = .int .i64 x2 := (hA.dep 6 (by decide) 29 rfl).trans (hd 6 (by decide))
    have d19 : ρ (.tmp 42) = .int .i64 u := (hA.dep 19 (by decide) 42 rfl).trans (hd 19 (by decide))
    clear hd
    exact runq_val (W' := W) (by simp [execOp, d6, d19, hw1, go_sem]) (Below.refl _ _) rfl
   case s21 =>
    intro val ρ W hE hz hd hA hx
    have d1 : ρ (.tmp 24) = .int .i64 P0 := (hA.dep 1 (by decide) 24 rfl).trans (hd 1 (by decide))
    have d20 : ρ (.tmp 43) = .int .i64 A := (hA.dep 20 (by decide) 43 rfl).trans (hd 20 (by decide))
    clear hd
    exact runq_val (W' := W) (by simp [execOp, d1, d20, hw2, go_sem]) (Below.refl _ _) rfl
   case s22 =>
    intro val ρ W hE hz hd hA hx
    have o0 : ρ (.tmp 5) = .pointer (some ⟨Q, 0, none⟩) := hA.old 5 (by decide)
    clear hd
    exact runq_val (W' := W) (by simp [execOp, o0, go_sem]) (Below.refl _ _) rfl
   case send =>
    intro val WW hE hzz hv
    obtain ⟨-, -, -, -, -, -, -, -, -, -, -, -, -, -, -, -, -, -, -, -, -, r21, r22, -⟩ := hv
    have q21 : val 21 = .int .i64 (P0 + A) := r21
    have q22 : val 22 = .pointer (some ⟨Q, 3, none⟩) := r22
    have hAW := HA.out.ext hE
    have v3 : WW.cell? ⟨Q, 3, none⟩ = some (.int .i64 P0) := hAW.c3
    have vf := hAW.fr 3
    have hk2 : Kept (fun j => j ≠ Q) Y (WW.setCell ⟨Q, 3, none⟩ (.int .i64 (P0 + A))) := (HK.out.trans ((Kept.of_below hE).mono (T := fun j => j ≠ Q) fun j hj _ => hj)).setCell (fun _ h => h rfl) _
    have HAN := Lib.hid (hAW.setP (P0 + A))
    have HKN := Lib.hid hk2
    simp only [putD, q21, q22]
    go_frame
    clear r21 r22 q21 q22 hAW hk2 hE hzz p3 d0 d1 d2 hzd k0 k1 k2 k3 k4 k5 k6 k7 hz
    go_wp2_with fail
    go_roundw
    case rel => exact ⟨k + 1, by omega, by go_num, by rw [HPT.out]; exact HAN.out, HKN.out⟩
    case measure => simp [intOf]; omega
  ·have hki : ¬ ((k : Int) < (L.length : Int)) := by omega
   have hke : k = L.length := by omega
   rw [hke, List.take_length] at hacc
   have hb := paidTo_bd V.out L.length
   rw [← HL.out, List.take_length] at hb
   obtain ⟨n1, n2, n3, n4, n5, n6⟩ := net_bd V.out.book
   obtain ⟨P0, hP0⟩ : ∃ P0, P0 = paidTo b L := ⟨_, rfl⟩
   obtain ⟨N, hN⟩ : ∃ N, N = netP b := ⟨_, rfl⟩
   rw [← hP0] at hacc hb
   rw [HAE.out] at hacc
   simp only at hacc
   rw [← hN] at hacc n4
   have hcar := V.out.book.car
   have hw1 : IntKind.i64.wrap (N - P0) = N - P0 := IntWalk.i64_in _ (by omega)
   have HAA : Hid (accA b (finsOf ps) = ⟨inP b, backP b, dutyP b, P0, N - P0, 0⟩) := Lib.hid (by
    unfold accA
    rw [if_neg (by rw [← HL.out]; exact HL0.out), hP0, hN]
    show (⟨inP b, backP b, dutyP b, paidTo b (divP b (finsOf ps)), netP b - paidTo b (divP b (finsOf ps)), 0⟩ : Acc) = _
    rw [← HL.out])
   have hr2 : AccAt wr (w.heap.size + 1) ⟨0, 0, 0, 0, 0, 0⟩ := (hkp.same _ HRY.out.lt (by omega)).trans HRY.out
   obtain ⟨I, hI⟩ : ∃ I, I = inP b := ⟨_, rfl⟩
   obtain ⟨K, hK⟩ : ∃ K, K = backP b := ⟨_, rfl⟩
   obtain ⟨D, hD⟩ : ∃ D, D = dutyP b := ⟨_, rfl⟩
   rw [← hI, ← hK, ← hD] at hacc
   replace HAA : Hid (accA b (finsOf ps) = ⟨I, K, D, P0, N - P0, 0⟩) := Lib.hid (by rw [HAA.out, hI, hK, hD])
   have hAW := hacc
   have c0x := hAW.c0
   have c1x := hAW.c1
   have cfx := fun o => hAW.fr o
   have czx := hAW.lt
   simp only at c0x c1x
   have c2x := hAW.c2
   have c3x := hAW.c3
   have c4x := hAW.c4
   have c5x := hAW.c5
   simp only at c2x c3x c4x c5x
   have c0z := (hr2).c0
   have c1z := (hr2).c1
   have c2z := (hr2).c2
   have c3z := (hr2).c3
   have c4z := (hr2).c4
   have c5z := (hr2).c5
   have cfz := fun o => (hr2).fr o
   have czz := (hr2).lt
   simp only at c0z c1z c2z c3z c4z c5z
   have HEW := Lib.hid hEw
   clear hI hK hD hP0 hN n1 n2 n3 n4 n5 n6 hcar hacc hkp hEw hAW hr2 hke hb
   go_wp2_with fail
   refine bodyPost_ret (v := .agg #[.int .i64 I, .int .i64 K, .int .i64 D, .int .i64 P0, .int .i64 (N - P0), .int .i64 0]) (by simp [results, Try.results73, go_sem, c0z, c1z, c2z, c3z, c4z, c5z]) rfl ?_
   refine ⟨by rw [HAA.out]; rfl, ext_set6 ((HEW.out.setCell (p := ⟨Q, 4, none⟩) (by show w.heap.size ≤ Q; omega) _).setCell (p := ⟨Q, 5, none⟩) (by show w.heap.size ≤ Q; omega) _) (Nat.le_succ _) _ _ _ _ _ _⟩
end Go.Proofs.Ytphajlldghcnnaa
namespace Go.Proofs.Ytphajlldghcnnaa
open Go.RowKit Go.Shelf
set_option maxRecDepth 100000 in
set_option maxHeartbeats 2000000 in
theorem refAcc_any (ps : List (Value × List Int)) (fv : Value) (b : Bk) (ba sa : Option Addr) (bcap scap : Nat) (w : World) (hv : IsBook w b ba bcap sa scap) (hf : IsFin w fv ps) :
  Calls Try.prog 35 #[.agg #[.int .i64 b.kd, .int .i64 b.n, .slice ba b.bets.length bcap, .slice sa b.scr.length scap, .bool b.fav, .int .i64 b.car, .int .i64 b.duty, .int .i64 b.step], fv] w fun e w' => e = .returned (accE b (finsOf ps)) ∧ Ext w w' := by
 obtain ⟨fa, fcap, rfl, hf1, hf2, -⟩ := hf.spec
 have HF := Lib.hid hf
 have HV := Lib.hid hv
 clear hf hv
 go_enter Try.func35, Try.ntmps35
 go_upto_region 1 with (fail)
 obtain ⟨W0, hW0⟩ : ∃ W0, W0 = (w.alloc (.cells #[.int .i64 b.kd, .int .i64 b.n, .slice ba b.bets.length bcap, .slice sa b.scr.length scap, .bool b.fav, .int .i64 b.car, .int .i64 b.duty, .int .i64 b.step] 25)).alloc (.cells #[.int .i64 0, .int .i64 0, .int .i64 0, .int .i64 0, .int .i64 0, .int .i64 0] 48) := ⟨_, rfl⟩
 have hE0 : Ext w W0 := by rw [hW0]; exact xx
 have hbk0 : BookAt W0 w.heap.size b ba bcap sa scap := by rw [hW0]; constructor <;> simp [go_sem]
 have hra : AccAt W0 (w.heap.size + 1) ⟨0, 0, 0, 0, 0, 0⟩ := by
  rw [hW0]
  have := World.alloc_heap_new (w.alloc (.cells #[.int .i64 b.kd, .int .i64 b.n, .slice ba b.bets.length bcap, .slice sa b.scr.length scap, .bool b.fav, .int .i64 b.car, .int .i64 b.duty, .int .i64 b.step] 25)) (.cells #[.int .i64 0, .int .i64 0, .int .i64 0, .int .i64 0, .int .i64 0, .int .i64 0] 48)
  rwa [World.size_alloc] at this
 rw [← hW0]
 have k0 := (hbk0).c0
 have k1 := (hbk0).c1
 have k2 := (hbk0).c2
 have k3 := (hbk0).c3
 have k4 := (hbk0).c4
 have k5 := (hbk0).c5
 have k6 := (hbk0).c6
 have k7 := (hbk0).c7
 have hz := (hbk0).lt
 have HW := Lib.hid hE0
 clear hW0 hE0 hbk0
 obtain ⟨er, her⟩ : ∃ er, er = finErr b (finsOf ps) := ⟨_, rfl⟩
 have t1 := fun W h1 h2 => refFin_any ps (.slice fa ps.length fcap) b ba sa bcap scap W h1 h2
 rw [← her] at t1
 go_wp2_with fail
 refine (t1 _ (HV.out.ext HW.out) (HF.out.ext HW.out)).mono ?_
 rintro e W1 ⟨rfl, hE1⟩
 replace k0 := cell_ext hE1 k0
 replace k1 := cell_ext hE1 k1
 replace k2 := cell_ext hE1 k2
 replace k3 := cell_ext hE1 k3
 replace k4 := cell_ext hE1 k4
 replace k5 := cell_ext hE1 k5
 replace k6 := cell_ext hE1 k6
 replace k7 := cell_ext hE1 k7
 replace hz := World.block_lt_of_cell? _ _ k0
 simp only at hz
 have hr1 := hra.ext hE1
 have HW1 := Lib.hid (HW.out.trans' hE1)
 have HR1 := Lib.hid hr1
 have HER := Lib.hid her
 clear hra hr1 her HW hE1
 by_cases h0 : er = 0
 rotate_left
 ·have f1 : (er != 0) = true := by simpa using h0
  have HNE := Lib.hid h0
  clear h0
  go_wp2_with fail
  refine (t1 _ (HV.out.ext HW1.out) (HF.out.ext HW1.out)).mono ?_
  rintro e W2 ⟨rfl, hE2⟩
  have hr2 := HR1.out.ext hE2
  have c0z := (hr2).c0
  have c1z := (hr2).c1
  have c2z := (hr2).c2
  have c3z := (hr2).c3
  have c4z := (hr2).c4
  have c5z := (hr2).c5
  have cfz := fun o => (hr2).fr o
  have czz := (hr2).lt
  simp only at c0z c1z c2z c3z c4z c5z
  have HW2 := Lib.hid (HW1.out.trans' hE2)
  clear hE2 hr2
  go_wp2_with fail
  refine bodyPost_ret (v := .tuple #[accV ⟨0, 0, 0, 0, 0, 0⟩, .int .i64 er]) (by simp [results, Try.results35, go_sem, accV, accC, c0z, c1z, c2z, c3z, c4z, c5z]) rfl ?_
  refine ⟨congrArg _ (accE_err HER.out HNE.out).symm, ?_⟩
  exact ext_set6 HW2.out (Nat.le_succ _) _ _ _ _ _ _
 ·subst h0
  have H0 := Lib.hid HER.out.symm
  clear HER t1
  go_wp2_with fail
  refine (accOf_any ps _ b ba sa bcap scap _ (HV.out.ext HW1.out) (HF.out.ext HW1.out) (finV_of H0.out)).mono ?_
  rintro e W2 ⟨rfl, hE2⟩
  obtain ⟨A, hA⟩ : ∃ A, A = accA b (finsOf ps) := ⟨_, rfl⟩
  rw [← hA]
  have HA := Lib.hid hA
  have hr2 := HR1.out.ext hE2
  have c0z := (hr2).c0
  have c1z := (hr2).c1
  have c2z := (hr2).c2
  have c3z := (hr2).c3
  have c4z := (hr2).c4
  have c5z := (hr2).c5
  have cfz := fun o => (hr2).fr o
  have czz := (hr2).lt
  simp only at c0z c1z c2z c3z c4z c5z
  have HW2 := Lib.hid (HW1.out.trans' hE2)
  simp only [accV, accC]
  clear hA hr2 hE2
  go_wp2_with fail
  refine bodyPost_ret (v := .tuple #[accV A, .int .i64 0]) (by simp [results, Try.results35, go_sem, accV, accC, c0z, c1z, c2z, c3z, c4z, c5z]) rfl ?_
  refine ⟨by rw [accE_ok H0.out, HA.out], ext_set6 HW2.out (Nat.le_succ _) _ _ _ _ _ _⟩
set_option maxRecDepth 100000 in
set_option maxHeartbeats 4000000 in
theorem refPay_any (ps : List (Value × List Int)) (fv : Value) (q : Int) (b : Bk) (ba sa : Option Addr) (bcap scap : Nat) (w : World) (hv : IsBook w b ba bcap sa scap) (hf : IsFin w fv ps) :
  Calls Try.prog 37 #[.agg #[.int .i64 b.kd, .int .i64 b.n, .slice ba b.bets.length bcap, .slice sa b.scr.length scap, .bool b.fav, .int .i64 b.car, .int .i64 b.duty, .int .i64 b.step], fv, .int .i64 q] w fun e w' => e = .returned (payE b (finsOf ps) q) ∧ Ext w w' := by
 obtain ⟨fa, fcap, rfl, hf1, hf2, -⟩ := hf.spec
 obtain ⟨⟨hb1, hb2⟩, -⟩ := hv.caps
 have HF0 := Lib.hid hf
 have HV := Lib.hid hv
 clear hf hv
 go_enter Try.func37, Try.ntmps37
 go_upto_region 1 with (fail)
 obtain ⟨W0, hW0⟩ : ∃ W0, W0 = w.alloc (.cells #[.int .i64 b.kd, .int .i64 b.n, .slice ba b.bets.length bcap, .slice sa b.scr.length scap, .bool b.fav, .int .i64 b.car, .int .i64 b.duty, .int .i64 b.step] 25) := ⟨_, rfl⟩
 have hE0 : Ext w W0 := by rw [hW0]; exact xx
 have hbk0 : BookAt W0 w.heap.size b ba bcap sa scap := by rw [hW0]; constructor <;> simp [go_sem]
 rw [← hW0]
 have k0 := (hbk0).c0
 have k1 := (hbk0).c1
 have k2 := (hbk0).c2
 have k3 := (hbk0).c3
 have k4 := (hbk0).c4
 have k5 := (hbk0).c5
 have k6 := (hbk0).c6
 have k7 := (hbk0).c7
 have hz := (hbk0).lt
 have HW := Lib.hid hE0
 clear hW0 hE0 hbk0
 obtain ⟨er, her⟩ : ∃ er, er = finErr b (finsOf ps) := ⟨_, rfl⟩
 have t1 := fun W h1 h2 => refFin_any ps (.slice fa ps.length fcap) b ba sa bcap scap W h1 h2
 rw [← her] at t1
 go_wp2_with fail
 refine (t1 _ (HV.out.ext HW.out) (HF0.out.ext HW.out)).mono ?_
 rintro e W1 ⟨rfl, hE1⟩
 replace k0 := cell_ext hE1 k0
 replace k1 := cell_ext hE1 k1
 replace k2 := cell_ext hE1 k2
 replace k3 := cell_ext hE1 k3
 replace k4 := cell_ext hE1 k4
 replace k5 := cell_ext hE1 k5
 replace k6 := cell_ext hE1 k6
 replace k7 := cell_ext hE1 k7
 replace hz := World.block_lt_of_cell? _ _ k0
 simp only at hz
 have HE1 := Lib.hid (HW.out.trans' hE1)
 have HF1 := Lib.hid (HF0.out.ext HE1.out)
 have HV1 := Lib.hid (HV.out.ext HE1.out)
 have HER := Lib.hid her
 clear her HW hE1
 by_cases h0 : er = 0
 rotate_left
 ·have f1 : (er != 0) = true := by simpa using h0
  have HNE := Lib.hid h0
  clear h0
  go_wp2_with fail
  refine (t1 _ HV1.out HF1.out).mono ?_
  rintro e W2 ⟨rfl, hE2⟩
  have HW2 := Lib.hid (HE1.out.trans' hE2)
  clear hE2
  go_wp2_with fail
  refine bodyPost_ret (v := .tuple #[.int .i64 0, .int .i64 er]) (by simp [results, Try.results37, go_sem]) rfl ?_
  have e1 : payErr b (finsOf ps) q = er := by unfold payErr; rw [← HER.out, if_pos HNE.out]
  exact ⟨by unfold payE; rw [e1, if_neg HNE.out], HW2.out⟩
 subst h0
 have H0 := Lib.hid HER.out.symm
 have V := Lib.hid (finV_of H0.out)
 clear HER t1
 have PE1 : Hid (∀ k, k < 0 ∨ (b.bets.length : Int) ≤ k → payE b (finsOf ps) k = .tuple #[.int .i64 0, .int .i64 5]) := Lib.hid fun k hk => by
  have e1 : payErr b (finsOf ps) k = 5 := by unfold payErr; rw [if_neg (fun h => h H0.out), if_pos hk]
  unfold payE; rw [e1, if_neg (by decide)]
 have PE0 : Hid (∀ k, ¬ (k < 0 ∨ (b.bets.length : Int) ≤ k) → payE b (finsOf ps) k = .tuple #[.int .i64 (payP b (finsOf ps) (betAt b k)), .int .i64 0]) := Lib.hid fun k hk => by
  have e1 : payErr b (finsOf ps) k = 0 := by unfold payErr; rw [if_neg (fun h => h H0.out), if_neg hk]
  unfold payE; rw [e1, if_pos rfl]
 by_cases hq0 : q < 0
 ·go_wp2_with fail
  refine bodyPost_ret (v := .tuple #[.int .i64 0, .int .i64 5]) (by simp [results, Try.results37, go_sem]) rfl ?_
  exact ⟨by rw [PE1.out q (.inl hq0)], HE1.out⟩
 by_cases hq1 : (b.bets.length : Int) ≤ q
 ·have hq2 : q ≥ (b.bets.length : Int) := hq1
  go_wp2_with fail
  refine bodyPost_ret (v := .tuple #[.int .i64 0, .int .i64 5]) (by simp [results, Try.results37, go_sem]) rfl ?_
  exact ⟨by rw [PE1.out q (.inr hq1)], HE1.out⟩
 obtain ⟨j, rfl⟩ : ∃ j : Nat, q = (j : Int) := ⟨q.toNat, by omega⟩
 have hj : j < b.bets.length := by omega
 have hji : (j : Int) < (b.bets.length : Int) := by omega
 obtain ⟨bb, bo, rfl, hbc⟩ := bets_cell HV1.out.bets hj
 obtain ⟨⟨c0, c1, c2⟩, hzb⟩ := hbc W1 (Below.refl _ _)
 obtain ⟨x, hx⟩ : ∃ x, x = b.bets[j] := ⟨_, rfl⟩
 rw [← hx] at c0 c1 c2
 have hxm : x ∈ b.bets := by rw [hx]; exact List.getElem_mem hj
 have hxb := (V.out.book.bet hxm).1
 have PE : Hid (payE b (finsOf ps) (j : Int) = .tuple #[.int .i64 (payP b (finsOf ps) x), .int .i64 0]) := Lib.hid (by
  rw [PE0.out _ (by omega)]
  have : betAt b (j : Int) = x := by unfold betAt; rw [Int.toNat_natCast, List.getD_eq_getElem?_getD, List.getElem?_eq_getElem hj, hx]; rfl
  rw [this])
 clear hbc hx hxm PE0 PE1
 go_upto_region 6 with (fail)
 obtain ⟨Y, hY⟩ : ∃ Y, Y = W1.alloc (.cells #[.int .i64 x.f, .int .i64 x.s, .int .i64 x.u] 62) := ⟨_, rfl⟩
 have hEY : Ext W1 Y := by rw [hY]; exact xx
 have x0 : Y.cell? ⟨W1.heap.size, 0, none⟩ = some (.int .i64 x.f) := by rw [hY]; simp [go_sem]
 have x1 : Y.cell? ⟨W1.heap.size, 1, none⟩ = some (.int .i64 x.s) := by rw [hY]; simp [go_sem]
 have x2 : Y.cell? ⟨W1.heap.size, 2, none⟩ = some (.int .i64 x.u) := by rw [hY]; simp [go_sem]
 rw [← hY]
 replace k0 := cell_ext hEY k0
 replace k1 := cell_ext hEY k1
 replace k2 := cell_ext hEY k2
 replace k3 := cell_ext hEY k3
 replace k4 := cell_ext hEY k4
 replace k5 := cell_ext hEY k5
 replace k6 := cell_ext hEY k6
 replace k7 := cell_ext hEY k7
 replace hz := World.block_lt_of_cell? _ _ k0
 simp only at hz
 have HY := Lib.hid (HE1.out.trans' hEY)
 have HVY := Lib.hid (HV1.out.ext hEY)
 have HFY := Lib.hid (HF1.out.ext hEY)
 have hzx := World.block_lt_of_cell? _ _ x2
 simp only at hzx
 clear hY hEY c0 c1 c2 hzb HV1 HF1
 go_wp2_with fail
 refine (onRef_any x b (some ⟨bb, bo, none⟩) sa bcap scap _ HVY.out V.out.book).mono ?_
 rintro e W2 ⟨rfl, hE2⟩
 replace k0 := cell_ext hE2 k0
 replace k1 := cell_ext hE2 k1
 replace k2 := cell_ext hE2 k2
 replace k3 := cell_ext hE2 k3
 replace k4 := cell_ext hE2 k4
 replace k5 := cell_ext hE2 k5
 replace k6 := cell_ext hE2 k6
 replace k7 := cell_ext hE2 k7
 replace hz := World.block_lt_of_cell? _ _ k0
 simp only at hz
 replace x2 := cell_ext hE2 x2
 replace hzx := World.block_lt_of_cell? _ _ x2
 simp only at hzx
 have HE2 := Lib.hid (HY.out.trans' hE2)
 have HV2 := Lib.hid (HVY.out.ext hE2)
 have HF2 := Lib.hid (HFY.out.ext hE2)
 obtain ⟨u, hu⟩ : ∃ u, u = x.u := ⟨_, rfl⟩
 rw [← hu] at x2 hxb
 have HU := Lib.hid hu
 clear hE2 hu x0 x1 HY HVY HFY
 rcases ho : onP b x with _ | ⟨s1, s2⟩
 ·have hpp : Hid (payP b (finsOf ps) x = 100 * u) := Lib.hid (by unfold payP; rw [ho, HU.out])
  have hw : IntKind.i64.wrap (100 * u) = 100 * u := IntWalk.i64_in _ (by omega)
  rw [onRE_none ho]
  clear ho
  go_wp2_with fail
  refine bodyPost_ret (v := .tuple #[.int .i64 (100 * u), .int .i64 0]) (by simp [results, Try.results37, go_sem]) rfl ?_
  exact ⟨by rw [PE.out, hpp.out], HE2.out.trans' (by exact xx)⟩
 have HO := Lib.hid ho
 rw [onRE_some ho]
 clear ho
 go_upto_region 7 with (fail)
 obtain ⟨Z, hZ⟩ : ∃ Z, Z = W2.alloc (.cells #[.int .i64 s1, .int .i64 s2] 71) := ⟨_, rfl⟩
 have hEZ : Ext W2 Z := by rw [hZ]; exact xx
 have y0 : Z.cell? ⟨W2.heap.size, 0, none⟩ = some (.int .i64 s1) := by rw [hZ]; simp [go_sem]
 have y1 : Z.cell? ⟨W2.heap.size, 1, none⟩ = some (.int .i64 s2) := by rw [hZ]; simp [go_sem]
 rw [← hZ]
 replace k0 := cell_ext hEZ k0
 replace k1 := cell_ext hEZ k1
 replace k2 := cell_ext hEZ k2
 replace k3 := cell_ext hEZ k3
 replace k4 := cell_ext hEZ k4
 replace k5 := cell_ext hEZ k5
 replace k6 := cell_ext hEZ k6
 replace k7 := cell_ext hEZ k7
 replace hz := World.block_lt_of_cell? _ _ k0
 simp only at hz
 replace x2 := cell_ext hEZ x2
 have hzy := World.block_lt_of_cell? _ _ y0
 simp only at hzy
 have HZ := Lib.hid (HE2.out.trans' hEZ)
 have HVZ := Lib.hid (HV2.out.ext hEZ)
 have HFZ := Lib.hid (HF2.out.ext hEZ)
 clear hZ hEZ HE2 HV2 HF2
 go_wp2_with fail
 refine (divOf_any ps _ b (some ⟨bb, bo, none⟩) sa bcap scap _ HVZ.out HFZ.out V.out).mono ?_
 rintro e W3 ⟨v, rfl, hE3, hown⟩
 have hrows := hown.isRows
 obtain ⟨la, lc, rfl, hl1, hl2, -⟩ := divs_spec hrows
 replace y0 := cell_ext hE3 y0
 replace y1 := cell_ext hE3 y1
 have x3 := cell_ext hE3 x2
 have HE3 := Lib.hid (HZ.out.trans' hE3)
 have HR := Lib.hid hrows
 have hz3 := World.block_lt_of_cell? _ _ y0
 simp only at hz3
 obtain ⟨L, hL⟩ : ∃ L, L = divP b (finsOf ps) := ⟨_, rfl⟩
 rw [← hL] at hl1 HR ⊢
 have HL := Lib.hid hL
 have h64 := divP_le V.out
 rw [← hL] at h64
 clear hE3 hrows hown hL x2 k0 k1 k2 k3 k4 k5 k6 k7 hz
 go_wp2_with fail
 go_loopw [12] (fun iv W => ∃ k : Nat, k ≤ L.length ∧ iv = .int .i64 k ∧ (∀ d ∈ L.take k, d.1 ≠ (s1, s2)) ∧ Ext W3 W) (fun iv _ => L.length - (intOf iv).toNat)
 case atStart => exact ⟨0, by omega, rfl, by simp, Below.refl _ _⟩
 case round =>
  obtain ⟨k, hk, rfl, hno, hE⟩ := hrel
  have HE := Lib.hid hE
  by_cases hlt : k < L.length
  ·have hki : (k : Int) < (L.length : Int) := by omega
   obtain ⟨_, _, e, -, -, hcc⟩ := divs_spec HR.out
   cases e
   rcases hcc with hcc | ⟨lb, lo, rfl, hcc⟩
   ·rw [hcc] at hlt; simp at hlt
   obtain ⟨e0, e1, e2⟩ := hcc k hlt
   have d0 := cell_ext hE e0
   have d1 := cell_ext hE e1
   have d2 := cell_ext hE e2
   have y0r := cell_ext hE y0
   have y1r := cell_ext hE y1
   have x3r := cell_ext hE x3
   obtain ⟨x0, hx0⟩ : ∃ x, x = L[k].1.1 := ⟨_, rfl⟩
   obtain ⟨x1, hx1⟩ : ∃ x, x = L[k].1.2 := ⟨_, rfl⟩
   obtain ⟨x2, hx2⟩ : ∃ x, x = L[k].2 := ⟨_, rfl⟩
   rw [← hx0] at d0
   rw [← hx1] at d1
   rw [← hx2] at d2
   have hzl := World.block_lt_of_cell? _ _ d0
   have hzy := World.block_lt_of_cell? _ _ y0r
   have hzx := World.block_lt_of_cell? _ _ x3r
   simp only at hzl hzy hzx
   have hxs : L[k].1 = (x0, x1) := by rw [hx0, hx1]
   by_cases hs : x0 = s1 ∧ x1 = s2
   ·obtain ⟨rfl, rfl⟩ := hs
    have heq := fun W => eql_two W x0 x1 x0 x1
    have heq2 : (x0 == x0 && x1 == x1) = true := by simp
    simp only [heq2] at heq
    clear heq2
    have hfd : L.find? (fun d => decide (d.1 = (x0, x1))) = some L[k] := by
     have e : L = L.take k ++ L[k] :: L.drop (k + 1) := by rw [List.getElem_cons_drop, List.take_append_drop]
     have h1 : (L.take k).find? (fun d => decide (d.1 = (x0, x1))) = none := by
      rw [List.find?_eq_none]
      intro d hd
      simpa using hno d hd
     conv => lhs; rw [e]
     rw [List.find?_append, h1, List.find?_cons, hxs]
     simp
    have hpp : Hid (payP b (finsOf ps) x = x2 * u) := Lib.hid (by
     have h2 : (divP b (finsOf ps)).find? (fun d => decide (d.1 = (x0, x1))) = some L[k] := by rw [← HL.out]; exact hfd
     unfold payP
     rw [HO.out]
     simp only
     rw [h2, hx2, HU.out])
    have hpb : 0 ≤ x2 ∧ x2 ≤ 1100000000 := by
     have hm : L[k] ∈ divP b (finsOf ps) := by rw [← HL.out]; exact List.getElem_mem hlt
     unfold divP at hm
     obtain ⟨s, hs, e⟩ := List.mem_map.1 hm
     have h1 := pence_le (finV_of H0.out) hs
     rw [← e] at hx2
     simp only at hx2
     omega
    have hm0 : 0 ≤ x2 * u := Int.mul_nonneg hpb.1 (by omega)
    have hm1 : x2 * u ≤ 1100000000 * 1000 := Int.mul_le_mul hpb.2 hxb.2 (by omega) (by omega)
    have hw : IntKind.i64.wrap (x2 * u) = x2 * u := IntWalk.i64_in _ (by omega)
    clear hcc e0 e1 e2 hx0 hx1 hx2 hxs hfd hno hE
    go_wp2_with fail
    go_quiet (fail)
    go_wp2_with fail
    go_quiet (fail)
    go_wp2_with fail
    refine bodyPost_ret (v := .tuple #[.int .i64 (x2 * u), .int .i64 0]) (by simp [results, Try.results37, go_sem]) rfl ?_
    exact ⟨by rw [PE.out, hpp.out], ((HE3.out.trans' HE.out).drN _).drN _⟩
   ·have heq := fun W => eql_two W s1 s2 x0 x1
    have heq2 : (s1 == x0 && s2 == x1) = false := by
     rw [Bool.and_eq_false_iff, beq_eq_false_iff_ne, beq_eq_false_iff_ne]
     by_cases e : s1 = x0
     ·exact .inr fun e2 => hs ⟨e.symm, e2.symm⟩
     ·exact .inl e
    simp only [heq2] at heq
    clear heq2
    have hno2 : ∀ d ∈ L.take (k + 1), d.1 ≠ (s1, s2) := by
     intro d hd
     rw [List.take_add_one, List.getElem?_eq_getElem hlt, List.mem_append] at hd
     rcases hd with hd | hd
     ·exact hno d hd
     ·simp at hd
      subst hd
      rw [hxs]
      intro e
      exact hs ⟨(Prod.mk.inj e).1, (Prod.mk.inj e).2⟩
    have HNO := Lib.hid hno2
    clear hcc e0 e1 e2 hx0 hx1 hx2 hxs hno hno2 hE hs
    go_wp2_with fail
    go_quiet (fail)
    go_wp2_with fail
    go_roundw
    case rel => exact ⟨k + 1, by omega, by go_num, HNO.out, HE.out.drN _⟩
    case measure => simp [intOf]; omega
  ·have hki : ¬ ((k : Int) < (L.length : Int)) := by omega
   have hke : k = L.length := by omega
   rw [hke, List.take_length] at hno
   have hpp : Hid (payP b (finsOf ps) x = 0) := Lib.hid (by
    have h2 : (divP b (finsOf ps)).find? (fun d => decide (d.1 = (s1, s2))) = none := by
     rw [← HL.out, List.find?_eq_none]
     intro d hd
     simpa using hno d hd
    unfold payP
    rw [HO.out]
    simp only
    rw [h2])
   clear hke hno hE
   go_wp2_with fail
   refine bodyPost_ret (v := .tuple #[.int .i64 0, .int .i64 0]) (by simp [results, Try.results37, go_sem]) rfl ?_
   exact ⟨by rw [PE.out, hpp.out], HE3.out.trans' HE.out⟩
end Go.Proofs.Ytphajlldghcnnaa
