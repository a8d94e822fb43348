/-
 The walk of the laws' helper named.
-/
import Derived.Test.YtphajlldghcnnaaNamN
import Derived.Test.YtphajlldghcnnaaPq
import Derived.Test.YtphajlldghcnnaaPu
import Derived.Test.YtphajlldghcnnaaPk
namespace Go.Proofs.Ytphajlldghcnnaa
open Go.RowKit Go.Shelf
/-- the first m bets, with other names -/
def namL (b : Bk) (σ : List Int) (m : Nat) : List PB := (b.bets.take m).map (namB b.kd σ)
theorem namL_len (b : Bk) (σ : List Int) (m : Nat) : (namL b σ m).length ≤ b.bets.length := by unfold namL; simp; omega
/-- scratched runners' names: below r, and r for the first k of them -/
def scT (b : Bk) (σ : List Int) (r k : Nat) : List Int := selTo σ (fun k => b.scr.contains k) b.n.toNat r ++ selR σ (fun k => b.scr.contains k) r k
theorem scT_zero (b : Bk) (σ : List Int) (r : Nat) : scT b σ r 0 = selTo σ (fun k => b.scr.contains k) b.n.toNat r := by unfold scT selR cas; simp
theorem scT_succ (b : Bk) (σ : List Int) (r k : Nat) : scT b σ r (k + 1) = scT b σ r k ++ if (decide (nm σ k = (r : Int)) && b.scr.contains (k : Int)) = true then [(r : Int)] else [] := by
 unfold scT
 rw [selR_succ, List.append_assoc]
theorem scT_next (b : Bk) (σ : List Int) (r : Nat) : scT b σ r b.n.toNat = scT b σ (r + 1) 0 := by
 rw [scT_zero, selTo_succ]; rfl
theorem selR_le (σ : List Int) (t : Int → Bool) (r m : Nat) : (selR σ t r m).length ≤ m := by
 unfold selR cas
 rw [List.length_map]
 exact Nat.le_trans (List.length_filter_le _ _) (by simp)
theorem scT_len {b : Bk} {σ : List Int} (h : IsNam b.n σ) (r k : Nat) : (scT b σ r k).length ≤ r + k := by
 unfold scT
 rw [List.length_append]
 have := selTo_len h (fun k => b.scr.contains k) r
 have := selR_le σ (fun k => b.scr.contains k) r k
 omega
/-- a group with other names, likewise -/
def gpT (b : Bk) (σ l : List Int) (r k : Nat) : List Int := selTo σ (fun k => l.contains k) b.n.toNat r ++ selR σ (fun k => l.contains k) r k
theorem gpT_zero (b : Bk) (σ l : List Int) (r : Nat) : gpT b σ l r 0 = selTo σ (fun k => l.contains k) b.n.toNat r := by unfold gpT selR cas; simp
theorem gpT_succ (b : Bk) (σ l : List Int) (r k : Nat) : gpT b σ l r (k + 1) = gpT b σ l r k ++ if (decide (nm σ k = (r : Int)) && l.contains (k : Int)) = true then [(r : Int)] else [] := by
 unfold gpT
 rw [selR_succ, List.append_assoc]
theorem gpT_next (b : Bk) (σ l : List Int) (r : Nat) : gpT b σ l r b.n.toNat = gpT b σ l (r + 1) 0 := by
 rw [gpT_zero, selTo_succ]; rfl
theorem gpT_len {b : Bk} {σ : List Int} (h : IsNam b.n σ) (l : List Int) (r k : Nat) : (gpT b σ l r k).length ≤ r + k := by
 unfold gpT
 rw [List.length_append]
 have := selTo_len h (fun k => l.contains k) r
 have := selR_le σ (fun k => l.contains k) r k
 omega
theorem namF_take (b : Bk) (σ : List Int) {fs : List (List Int)} {i : Nat} (hi : i < fs.length) : (namF b σ fs).take (i + 1) = (namF b σ fs).take i ++ [gpT b σ fs[i] b.n.toNat 0] := by
 rw [List.take_add_one, gpT_zero]
 congr 1
 unfold namF
 rw [List.getElem?_map, List.getElem?_eq_getElem hi]
 rfl
def RetNam (w : World) (b : Bk) (σ : List Int) (fs : List (List Int)) (e : Ending) (w' : World) : Prop :=
 Ext w w' ∧ ∃ (ba sa : Option Addr) (bcap scap : Nat) (gv : Value) (qs : List (Value × List Int)), e = .returned (.tuple #[bookV (namC b σ) ba bcap sa scap, gv]) ∧ IsBook w' (namC b σ) ba bcap sa scap ∧ IsFin w' gv qs ∧ finsOf qs = namF b σ fs
set_option maxRecDepth 100000 in
set_option maxHeartbeats 8000000 in
theorem named_any (ps : List (Value × List Int)) (fv : Value) (σ : List Int) (nv : Value) (b : Bk) (ba sa : Option Addr) (bcap scap : Nat) (w : World) (hv : IsBook w b ba bcap sa scap) (hf : IsFin w fv ps) (hns : IsInts w .i64 nv σ) (hnam : IsNam b.n σ) (v : BVal b) (hpl : ps.length ≤ 8) :
  Calls Try.prog 50 #[.agg #[.int .i64 b.kd, .int .i64 b.n, .slice ba b.bets.length bcap, .slice sa b.scr.length scap, .bool b.fav, .int .i64 b.car, .int .i64 b.duty, .int .i64 b.step], fv, nv] w (RetNam w b σ (finsOf ps)) := by
 obtain ⟨fa, fcap, rfl, -, -, -⟩ := hf.spec
 obtain ⟨na, ncap, rfl, hn1, hn2, -⟩ := hns.spec
 have HV := Lib.hid hv
 have HF := Lib.hid hf
 have HNS := Lib.hid hns
 have NAM := Lib.hid hnam
 have V := Lib.hid v
 have hvn := v.n
 have hsl := hnam.len
 have hmany := v.many
 have HMY := Lib.hid hmany
 clear hv hf hns hnam v
 go_enter Try.func50, Try.ntmps50
 go_upto_region 3 with (fail)
 obtain ⟨W0, hW0⟩ : ∃ W0, W0 = (w.alloc (.cells #[.int .i64 b.kd, .int .i64 b.n, .slice ba b.bets.length bcap, .slice sa b.scr.length scap, .bool b.fav, .int .i64 b.car, .int .i64 b.duty, .int .i64 b.step] 25)).alloc (.cells #[.int .i64 0, .int .i64 0, .slice none 0 0, .slice none 0 0, .bool false, .int .i64 0, .int .i64 0, .int .i64 0] 25) := ⟨_, rfl⟩
 have hE0 : Ext w W0 := by rw [hW0]; exact xx
 have hbk0 : BookAt W0 w.heap.size b ba bcap sa scap := by rw [hW0]; constructor <;> simp [go_sem]
 have hz0 : RowB W0 (w.heap.size + 1) zRow := by
  rw [hW0]
  have := World.alloc_heap_new (w.alloc (.cells #[.int .i64 b.kd, .int .i64 b.n, .slice ba b.bets.length bcap, .slice sa b.scr.length scap, .bool b.fav, .int .i64 b.car, .int .i64 b.duty, .int .i64 b.step] 25)) (.cells zRow 25)
  rwa [World.size_alloc] at this
 have hsz : W0.heap.size = w.heap.size + 1 + 1 := by rw [hW0]; simp
 rw [← hW0]
 obtain ⟨X, hX⟩ : ∃ X, X = W0.alloc (.cells #[.int .i64 b.kd, .int .i64 b.n, .slice none 0 0, .slice none 0 0, .bool b.fav, .int .i64 b.car, .int .i64 b.duty, .int .i64 b.step] 25) := ⟨_, rfl⟩
 obtain ⟨Q, hQ⟩ : ∃ Q, Q = w.heap.size + 1 + 1 := ⟨_, rfl⟩
 have hrX : RowB X Q #[.int .i64 b.kd, .int .i64 b.n, .slice none 0 0, .slice none 0 0, .bool b.fav, .int .i64 b.car, .int .i64 b.duty, .int .i64 b.step] := by rw [hX, hQ, ← hsz]; exact World.alloc_heap_new W0 _
 have hEX : Ext W0 X := by rw [hX]; exact xx
 rw [← hX, ← hQ]
 have HSZ : Hid (W0.heap.size = Q) := Lib.hid (by rw [hsz, hQ])
 have HQW : Hid (Q = w.heap.size + 1 + 1) := Lib.hid hQ
 have HE0 := Lib.hid hE0
 have HBK := Lib.hid hbk0
 have HZ0 := Lib.hid hz0
 have HRX := Lib.hid hrX
 have HEX := Lib.hid hEX
 have HQZ := hrX.lt
 have hwQ : w.heap.size < Q := by omega
 clear hW0 hE0 hbk0 hz0 hsz hX hQ hrX hEX
 go_wp2_with fail
 go_loopw [9] (fun iv W => ∃ (m : Nat) (sa' : Option Addr) (n' c' : Nat), m ≤ b.bets.length ∧ iv = .int .i64 m ∧ RowB W Q #[.int .i64 b.kd, .int .i64 b.n, (.slice sa' n' c'), .slice none 0 0, .bool b.fav, .int .i64 b.car, .int .i64 b.duty, .int .i64 b.step] ∧
   Owns W X.heap.size 62 3 (.slice sa' n' c') ((namL b σ m).map betRow) ∧ Kept (fun g => g < X.heap.size ∧ g ≠ Q) X W) (fun iv _ => b.bets.length - (intOf iv).toNat)
 case atStart => exact ⟨0, none, 0, 0, by omega, rfl, HRX.out, Owns.nil _ _ _ _, Kept.refl _ _⟩
 case round =>
  obtain ⟨m, sa', n', c', hm, rfl, hrow, hown, hkp⟩ := hrel
  have HROW := Lib.hid hrow
  have HOWN := Lib.hid hown
  have HKP := Lib.hid hkp
  have hEw : Ext W0 wr := HEX.out.trans (Kept.below (hkp.mono (T := fun g => g < W0.heap.size) fun g _ hg => by have := HEX.out.size; have := HSZ.out; omega) HEX.out.size)
  have hbk := HBK.out.ext hEw
  have k0 := hbk.c0
  have k2 := hbk.c2
  have hz := hbk.lt
  have x2 := hrow.cell 2
  have xf := hrow.fr 2
  have xz := hrow.lt
  simp only [List.getElem?_toArray, List.getElem?_cons_zero, List.getElem?_cons_succ] at x2
  have hzX := hkp.size
  by_cases hlt : m < b.bets.length
  ·have hmi : (m : Int) < (b.bets.length : Int) := by omega
   obtain ⟨bb, off, rfl, hcm⟩ := bets_cell HV.out.bets hlt
   obtain ⟨⟨d0, d1, d2⟩, hzd⟩ := hcm wr (HE0.out.trans' hEw)
   have hok := okS_bet V.out (List.getElem_mem hlt)
   obtain ⟨z, hz9⟩ : ∃ z, z = b.bets[m] := ⟨_, rfl⟩
   rw [← hz9] at d0 d1 d2 hok
   have HZ : Hid (z = b.bets[m]) := Lib.hid hz9
   obtain ⟨h1, h2, h3⟩ := hok
   simp only at h1 h2 h3
   obtain ⟨kf, hkf⟩ : ∃ kf : Nat, z.f = (kf : Int) := ⟨z.f.toNat, by omega⟩
   have hkl : kf < σ.length := by omega
   have hkli : (kf : Int) < (σ.length : Int) := by omega
   obtain ⟨_, _, he1, hcl⟩ := ints_cell HNS.out hkl
   cases he1
   obtain ⟨e0, hze⟩ := hcl wr (HE0.out.trans' hEw)
   obtain ⟨p, hp⟩ : ∃ p, p = gt σ kf := ⟨_, rfl⟩
   rw [← hp] at e0
   have hpn : nm σ z.f = p := by rw [hp, hkf]; rfl
   rw [hkf] at d0
   have HPN := Lib.hid hpn
   have HKF := Lib.hid hkf
   by_cases hs0 : 0 ≤ z.s
   ·have hsn : single b = false := by
     cases hsg : single b
     ·rfl
     ·have := h2 hsg; omega
    obtain ⟨b1, b2, b3, b4⟩ := h3 hsn
    obtain ⟨ks, hks⟩ : ∃ ks : Nat, z.s = (ks : Int) := ⟨z.s.toNat, by omega⟩
    have hkl2 : ks < σ.length := by omega
    have hkli2 : (ks : Int) < (σ.length : Int) := by omega
    obtain ⟨_, _, he1, hcl2⟩ := ints_cell HNS.out hkl2
    cases he1
    obtain ⟨e1, -⟩ := hcl2 wr (HE0.out.trans' hEw)
    obtain ⟨q, hq⟩ : ∃ q, q = gt σ ks := ⟨_, rfl⟩
    rw [← hq] at e1
    have hqn : nm σ z.s = q := by rw [hq, hks]; rfl
    rw [hks] at d1
    have hks0 : (0 : Int) ≤ (ks : Int) := by omega
    have HQN := Lib.hid hqn
    have HS0 := Lib.hid hs0
    clear hrow hown hkp hEw hbk hcm hz9 h1 h2 h3 hp hq hpn hqn hkf hks hcl hcl2 b1 b2 b3 b4 hsn hs0
    by_cases k3 : b.kd = 3
    ·have f3 : (b.kd == 3) = true := by rw [beq_iff_eq]; exact k3
     by_cases hqp : q < p
     ·have HNB : Hid (namB b.kd σ z = ⟨q, p, z.u⟩) := Lib.hid (by
       unfold namB namS
       simp only
       rw [if_pos HS0.out, HPN.out, HQN.out, if_pos ⟨k3, hqp⟩])
      clear k3
      have HT : Hid (namL b σ (m + 1) = namL b σ m ++ [⟨q, p, z.u⟩]) := Lib.hid (by
       unfold namL
       rw [List.take_add_one, List.getElem?_eq_getElem hlt, List.map_append, ← HZ.out]
       simp only [Option.toList, List.map_cons, List.map_nil]
       rw [HNB.out])
      have HLEN : Hid (((namL b σ m).map betRow).length + [[Value.int .i64 q, .int .i64 p, .int .i64 z.u]].length ≤ 1000000) := Lib.hid (by have := HMY.out; have := namL_len b σ m; simp; omega)
      clear HNB
      go_wp2_with (at_builtin; refine wpOwn rfl (.tmp 65) (.tmp 67) elBet rfl X.heap.size rfl (HOWN.out.ext (by exact xx)) (wr.heap.size + 1) 0 1 [[.int .i64 q, .int .i64 p, .int .i64 z.u]] rfl (by simp) (newRowAt _ [.int .i64 q, .int .i64 p, .int .i64 z.u] _ _ _ (by simp) rfl) (by simp [Value.oneCell']) HLEN.out (by simp; omega) ?_)
      intro v' W4 hown4 hb4
      obtain ⟨va', vn, vc', rfl⟩ := hown4.isSlice
      have hEa : Ext wr ((wr.alloc (.cells #[.int .i64 q, .int .i64 p, .int .i64 z.u] 62)).alloc (.cells #[.int .i64 q, .int .i64 p, .int .i64 z.u] 62)) := by exact xx
      have hr4 := (hb4.block Q HQZ).trans (HROW.out.ext hEa)
      have y2 : W4.cell? ⟨Q, 2, none⟩ = some (.slice sa' n' c') := by rw [cell_of_row _ _ _ _ _ _ hr4]; rfl
      have yf : W4.frozen? ⟨Q, 2, none⟩ = false := by simp [World.frozen?, hr4]
      have yz := (Array.getElem?_eq_some_iff.1 hr4).1
      have HR4 := Lib.hid hr4
      have HO4 := Lib.hid hown4
      have HK4 : Hid (Kept (fun g => g < X.heap.size ∧ g ≠ Q) X W4) := Lib.hid ((HKP.out.trans ((Kept.of_below hEa).mono fun g hg _ => hg)).trans ⟨hb4.os, hb4.tape, hb4.output, hb4.size, fun g _ hg => hb4.block g hg.1⟩)
      clear hown4 hb4 hr4 hEa x2 xf
      go_wp2_with fail
      go_roundw
      case rel =>
       refine ⟨m + 1, va', vn, vc', by omega, by go_num, heap_setCell_row HR4.out 2 _, ?_, HK4.out.setCell (fun _ h => h.2 rfl) _⟩
       rw [HT.out, List.map_append]
       exact HO4.out.setOther HR4.out (by decide) 2 _
      case measure => simp [intOf]; omega
     ·have HNB : Hid (namB b.kd σ z = ⟨p, q, z.u⟩) := Lib.hid (by
       unfold namB namS
       simp only
       rw [if_pos HS0.out, HPN.out, HQN.out, if_neg (fun e => hqp e.2)])
      clear k3
      have HT : Hid (namL b σ (m + 1) = namL b σ m ++ [⟨p, q, z.u⟩]) := Lib.hid (by
       unfold namL
       rw [List.take_add_one, List.getElem?_eq_getElem hlt, List.map_append, ← HZ.out]
       simp only [Option.toList, List.map_cons, List.map_nil]
       rw [HNB.out])
      have HLEN : Hid (((namL b σ m).map betRow).length + [[Value.int .i64 p, .int .i64 q, .int .i64 z.u]].length ≤ 1000000) := Lib.hid (by have := HMY.out; have := namL_len b σ m; simp; omega)
      clear HNB
      go_wp2_with (at_builtin; refine wpOwn rfl (.tmp 65) (.tmp 67) elBet rfl X.heap.size rfl (HOWN.out.ext (by exact xx)) (wr.heap.size + 1) 0 1 [[.int .i64 p, .int .i64 q, .int .i64 z.u]] rfl (by simp) (newRowAt _ [.int .i64 p, .int .i64 q, .int .i64 z.u] _ _ _ (by simp) rfl) (by simp [Value.oneCell']) HLEN.out (by simp; omega) ?_)
      intro v' W4 hown4 hb4
      obtain ⟨va', vn, vc', rfl⟩ := hown4.isSlice
      have hEa : Ext wr ((wr.alloc (.cells #[.int .i64 p, .int .i64 q, .int .i64 z.u] 62)).alloc (.cells #[.int .i64 p, .int .i64 q, .int .i64 z.u] 62)) := by exact xx
      have hr4 := (hb4.block Q HQZ).trans (HROW.out.ext hEa)
      have y2 : W4.cell? ⟨Q, 2, none⟩ = some (.slice sa' n' c') := by rw [cell_of_row _ _ _ _ _ _ hr4]; rfl
      have yf : W4.frozen? ⟨Q, 2, none⟩ = false := by simp [World.frozen?, hr4]
      have yz := (Array.getElem?_eq_some_iff.1 hr4).1
      have HR4 := Lib.hid hr4
      have HO4 := Lib.hid hown4
      have HK4 : Hid (Kept (fun g => g < X.heap.size ∧ g ≠ Q) X W4) := Lib.hid ((HKP.out.trans ((Kept.of_below hEa).mono fun g hg _ => hg)).trans ⟨hb4.os, hb4.tape, hb4.output, hb4.size, fun g _ hg => hb4.block g hg.1⟩)
      clear hown4 hb4 hr4 hEa x2 xf
      go_wp2_with fail
      go_roundw
      case rel =>
       refine ⟨m + 1, va', vn, vc', by omega, by go_num, heap_setCell_row HR4.out 2 _, ?_, HK4.out.setCell (fun _ h => h.2 rfl) _⟩
       rw [HT.out, List.map_append]
       exact HO4.out.setOther HR4.out (by decide) 2 _
      case measure => simp [intOf]; omega
    ·have f3 : (b.kd == 3) = false := by rw [beq_eq_false_iff_ne]; exact k3
     have HNB : Hid (namB b.kd σ z = ⟨p, q, z.u⟩) := Lib.hid (by
      unfold namB namS
      simp only
      rw [if_pos HS0.out, HPN.out, HQN.out, if_neg (fun e => k3 e.1)])
     clear k3
     have HT : Hid (namL b σ (m + 1) = namL b σ m ++ [⟨p, q, z.u⟩]) := Lib.hid (by
      unfold namL
      rw [List.take_add_one, List.getElem?_eq_getElem hlt, List.map_append, ← HZ.out]
      simp only [Option.toList, List.map_cons, List.map_nil]
      rw [HNB.out])
     have HLEN : Hid (((namL b σ m).map betRow).length + [[Value.int .i64 p, .int .i64 q, .int .i64 z.u]].length ≤ 1000000) := Lib.hid (by have := HMY.out; have := namL_len b σ m; simp; omega)
     clear HNB
     go_wp2_with (at_builtin; refine wpOwn rfl (.tmp 65) (.tmp 67) elBet rfl X.heap.size rfl (HOWN.out.ext (by exact xx)) (wr.heap.size + 1) 0 1 [[.int .i64 p, .int .i64 q, .int .i64 z.u]] rfl (by simp) (newRowAt _ [.int .i64 p, .int .i64 q, .int .i64 z.u] _ _ _ (by simp) rfl) (by simp [Value.oneCell']) HLEN.out (by simp; omega) ?_)
     intro v' W4 hown4 hb4
     obtain ⟨va', vn, vc', rfl⟩ := hown4.isSlice
     have hEa : Ext wr ((wr.alloc (.cells #[.int .i64 p, .int .i64 q, .int .i64 z.u] 62)).alloc (.cells #[.int .i64 p, .int .i64 q, .int .i64 z.u] 62)) := by exact xx
     have hr4 := (hb4.block Q HQZ).trans (HROW.out.ext hEa)
     have y2 : W4.cell? ⟨Q, 2, none⟩ = some (.slice sa' n' c') := by rw [cell_of_row _ _ _ _ _ _ hr4]; rfl
     have yf : W4.frozen? ⟨Q, 2, none⟩ = false := by simp [World.frozen?, hr4]
     have yz := (Array.getElem?_eq_some_iff.1 hr4).1
     have HR4 := Lib.hid hr4
     have HO4 := Lib.hid hown4
     have HK4 : Hid (Kept (fun g => g < X.heap.size ∧ g ≠ Q) X W4) := Lib.hid ((HKP.out.trans ((Kept.of_below hEa).mono fun g hg _ => hg)).trans ⟨hb4.os, hb4.tape, hb4.output, hb4.size, fun g _ hg => hb4.block g hg.1⟩)
     clear hown4 hb4 hr4 hEa x2 xf
     go_wp2_with fail
     go_roundw
     case rel =>
      refine ⟨m + 1, va', vn, vc', by omega, by go_num, heap_setCell_row HR4.out 2 _, ?_, HK4.out.setCell (fun _ h => h.2 rfl) _⟩
      rw [HT.out, List.map_append]
      exact HO4.out.setOther HR4.out (by decide) 2 _
     case measure => simp [intOf]; omega
   ·have hsg : single b = true := by
     cases hsg : single b
     ·have := (h3 hsg).1; omega
     ·rfl
    have hs1 := h2 hsg
    have k3 : ¬ b.kd = 3 := fun hk => by unfold single at hsg; simp [hk] at hsg
    have f3 : (b.kd == 3) = false := by rw [beq_eq_false_iff_ne]; exact k3
    rw [hs1] at d1
    have HNB : Hid (namB b.kd σ z = ⟨p, -1, z.u⟩) := Lib.hid (by
     have e9 : (if (0 : Int) ≤ -1 then nm σ (-1) else -1) = -1 := if_neg (by omega)
     unfold namB namS
     simp only
     rw [hs1, e9, hpn, if_neg (fun e => k3 e.1)])
    clear hrow hown hkp hEw hbk hcm hz9 h1 h2 h3 hp hpn hkf hcl hsg hs1 hs0 k3
    have HT : Hid (namL b σ (m + 1) = namL b σ m ++ [⟨p, (-1), z.u⟩]) := Lib.hid (by
     unfold namL
     rw [List.take_add_one, List.getElem?_eq_getElem hlt, List.map_append, ← HZ.out]
     simp only [Option.toList, List.map_cons, List.map_nil]
     rw [HNB.out])
    have HLEN : Hid (((namL b σ m).map betRow).length + [[Value.int .i64 p, .int .i64 (-1), .int .i64 z.u]].length ≤ 1000000) := Lib.hid (by have := HMY.out; have := namL_len b σ m; simp; omega)
    clear HNB
    go_wp2_with (at_builtin; refine wpOwn rfl (.tmp 65) (.tmp 67) elBet rfl X.heap.size rfl (HOWN.out.ext (by exact xx)) (wr.heap.size + 1) 0 1 [[.int .i64 p, .int .i64 (-1), .int .i64 z.u]] rfl (by simp) (newRowAt _ [.int .i64 p, .int .i64 (-1), .int .i64 z.u] _ _ _ (by simp) rfl) (by simp [Value.oneCell']) HLEN.out (by simp; omega) ?_)
    intro v' W4 hown4 hb4
    obtain ⟨va', vn, vc', rfl⟩ := hown4.isSlice
    have hEa : Ext wr ((wr.alloc (.cells #[.int .i64 p, .int .i64 (-1), .int .i64 z.u] 62)).alloc (.cells #[.int .i64 p, .int .i64 (-1), .int .i64 z.u] 62)) := by exact xx
    have hr4 := (hb4.block Q HQZ).trans (HROW.out.ext hEa)
    have y2 : W4.cell? ⟨Q, 2, none⟩ = some (.slice sa' n' c') := by rw [cell_of_row _ _ _ _ _ _ hr4]; rfl
    have yf : W4.frozen? ⟨Q, 2, none⟩ = false := by simp [World.frozen?, hr4]
    have yz := (Array.getElem?_eq_some_iff.1 hr4).1
    have HR4 := Lib.hid hr4
    have HO4 := Lib.hid hown4
    have HK4 : Hid (Kept (fun g => g < X.heap.size ∧ g ≠ Q) X W4) := Lib.hid ((HKP.out.trans ((Kept.of_below hEa).mono fun g hg _ => hg)).trans ⟨hb4.os, hb4.tape, hb4.output, hb4.size, fun g _ hg => hb4.block g hg.1⟩)
    clear hown4 hb4 hr4 hEa x2 xf
    go_wp2_with fail
    go_roundw
    case rel =>
     refine ⟨m + 1, va', vn, vc', by omega, by go_num, heap_setCell_row HR4.out 2 _, ?_, HK4.out.setCell (fun _ h => h.2 rfl) _⟩
     rw [HT.out, List.map_append]
     exact HO4.out.setOther HR4.out (by decide) 2 _
    case measure => simp [intOf]; omega
  ·have hmi : ¬ ((m : Int) < (b.bets.length : Int)) := by omega
   go_upto_region 13 with (fail)
   have hme : m = b.bets.length := by omega
   rw [hme] at hown
   have hnl : namL b σ b.bets.length = b.bets.map (namB b.kd σ) := by unfold namL; rw [List.take_length]
   rw [hnl] at hown
   have hn' : n' = b.bets.length := by
    obtain ⟨_, _, e9, -⟩ := hown.form
    have := (Value.slice.inj e9).2.1
    simpa using this
   subst hn'
   obtain ⟨X2, rfl⟩ : ∃ X2, X2 = wr := ⟨_, rfl⟩
   have HB2 : Hid (IsRows X2 3 (.slice sa' b.bets.length c') ((b.bets.map (namB b.kd σ)).map betRow)) := Lib.hid hown.isRows
   have HR2 := Lib.hid hrow
   have HE2 := Lib.hid hEw
   have HQ2 := hrow.lt
   have HNB2 : Hid (∀ g, (Value.slice sa' b.bets.length c').ownBlock = some g → (g < X2.heap.size ∧ g ≠ Q) ∧ Q < g) := Lib.hid fun g hg => by
    have := hown.notOwn g hg
    omega
   clear hown hrow hkp hEw hbk k0 k2 hz x2 xf xz hme hnl HROW HOWN HKP hm hlt hmi
   go_wp2_with fail
   go_loopw [11] (fun rv W => ∃ (r : Nat) (sb : Option Addr) (nb cb : Nat), (r : Int) ≤ b.n ∧ rv = .int .i64 r ∧ RowB W Q #[.int .i64 b.kd, .int .i64 b.n, (.slice sa' b.bets.length c'), (.slice sb nb cb), .bool b.fav, .int .i64 b.car, .int .i64 b.duty, .int .i64 b.step] ∧
     Owns W X2.heap.size 3 1 (.slice sb nb cb) ((scT b σ r 0).map iRow) ∧ Kept (fun g => g < X2.heap.size ∧ g ≠ Q) X2 W) (fun rv _ => b.n.toNat - (intOf rv).toNat)
   case atStart => exact ⟨0, none, 0, 0, by omega, rfl, HR2.out, Owns.nil _ _ _ _, Kept.refl _ _⟩
   case round =>
    obtain ⟨r, sb0, nb0, cb0, hr, rfl, hrow, hown, hkp⟩ := hrel
    have HROW := Lib.hid hrow
    have HOWN := Lib.hid hown
    have HKP := Lib.hid hkp
    have hEw : Ext W0 wr := HE2.out.trans (Kept.below (hkp.mono (T := fun g => g < W0.heap.size) fun g _ hg => by have := HE2.out.size; have := HSZ.out; omega) HE2.out.size)
    have hbk := HBK.out.ext hEw
    have k1 := hbk.c1
    have hz := hbk.lt
    by_cases hlr : (r : Int) < b.n
    ·clear hrow hown hkp hEw hbk
     go_wp2_with fail
     go_loopw [12] (fun kv W => ∃ (k : Nat) (sb : Option Addr) (nb cb : Nat), (k : Int) ≤ b.n ∧ kv = .int .i64 k ∧ RowB W Q #[.int .i64 b.kd, .int .i64 b.n, (.slice sa' b.bets.length c'), (.slice sb nb cb), .bool b.fav, .int .i64 b.car, .int .i64 b.duty, .int .i64 b.step] ∧
       Owns W X2.heap.size 3 1 (.slice sb nb cb) ((scT b σ r k).map iRow) ∧ Kept (fun g => g < X2.heap.size ∧ g ≠ Q) X2 W) (fun kv _ => b.n.toNat - (intOf kv).toNat)
     case atStart => exact ⟨0, sb0, nb0, cb0, by omega, rfl, HROW.out, HOWN.out, HKP.out⟩
     case round =>
      obtain ⟨k, sb, nb, cb, hk, rfl, hrow, hown, hkp⟩ := hrel
      obtain ⟨Y0, rfl⟩ : ∃ Y0, Y0 = wr := ⟨_, rfl⟩
      replace HROW := Lib.hid hrow
      replace HOWN := Lib.hid hown
      replace HKP := Lib.hid hkp
      have hEw : Ext W0 Y0 := HE2.out.trans (Kept.below (hkp.mono (T := fun g => g < W0.heap.size) fun g _ hg => by have := HE2.out.size; have := HSZ.out; omega) HE2.out.size)
      have hbk := HBK.out.ext hEw
      replace k1 := hbk.c1
      have k3 := hbk.c3
      replace hz := hbk.lt
      have hzX := hkp.size
      by_cases hlk : (k : Int) < b.n
      ·have hkl : k < σ.length := by omega
       have hkli : (k : Int) < (σ.length : Int) := by omega
       obtain ⟨_, _, he1, hcl⟩ := ints_cell HNS.out hkl
       cases he1
       obtain ⟨e0, hze⟩ := hcl Y0 (HE0.out.trans' hEw)
       obtain ⟨p, hp⟩ : ∃ p, p = gt σ k := ⟨_, rfl⟩
       rw [← hp] at e0
       have HPN : Hid (nm σ k = p) := Lib.hid (by rw [hp]; rfl)
       have HSC := Lib.hid ((HV.out.ext (HE0.out.trans' hEw)).scr)
       clear hrow hown hkp hEw hbk hp hcl
       by_cases hpr : p = (r : Int)
       rotate_left
       ·have f1 : (p == (r : Int)) = false := by rw [beq_eq_false_iff_ne]; exact hpr
        have HT : Hid (scT b σ r (k + 1) = scT b σ r k) := Lib.hid (by rw [scT_succ, HPN.out, decide_eq_false hpr]; simp)
        clear hpr
        go_wp2_with fail
        go_roundw
        case rel => exact ⟨k + 1, sb, nb, cb, by omega, by go_num, HROW.out, by rw [HT.out]; exact HOWN.out, HKP.out⟩
        case measure => simp [intOf]; omega
       ·have f1 : (p == (r : Int)) = true := by rw [beq_iff_eq]; exact hpr
        have HPR := Lib.hid hpr
        clear hpr
        go_wp2_with fail
        refine (has_any b.scr k _ _ (HSC.out.ext (by exact xx))).mono ?_
        rintro e Y ⟨rfl, hEY⟩
        replace HROW := Lib.hid (HROW.out.ext hEY)
        replace HOWN := Lib.hid (HOWN.out.ext hEY)
        replace HKP := Lib.hid (HKP.out.trans ((Kept.of_below hEY).mono fun g hg _ => hg))
        have x3 := HROW.out.cell 3
        have xf := HROW.out.fr 3
        have xz := HROW.out.lt
        simp only [List.getElem?_toArray, List.getElem?_cons_zero, List.getElem?_cons_succ] at x3
        replace k1 := cell_ext hEY k1
        replace hz := World.block_lt_of_cell? _ _ k1
        simp only at hz
        have hyz := HKP.out.size
        clear hEY k3 e0 hze
        cases hc : b.scr.contains (k : Int)
        ·have HT : Hid (scT b σ r (k + 1) = scT b σ r k) := Lib.hid (by rw [scT_succ, hc]; simp)
         clear hc
         go_wp2_with fail
         go_roundw
         case rel => exact ⟨k + 1, sb, nb, cb, by omega, by go_num, HROW.out, by rw [HT.out]; exact HOWN.out, HKP.out⟩
         case measure => simp [intOf]; omega
        ·have HT : Hid (scT b σ r (k + 1) = scT b σ r k ++ [(r : Int)]) := Lib.hid (by rw [scT_succ, hc, HPN.out, decide_eq_true HPR.out]; rfl)
         clear hc
         have HLEN : Hid (((scT b σ r k).map iRow).length + [[Value.int .i64 r]].length ≤ 1000000) := Lib.hid (by have := scT_len NAM.out r k; simp; omega)
         go_wp2_with (at_builtin; refine wpOwn rfl (.tmp 95) (.tmp 97) elInt rfl X2.heap.size rfl (HOWN.out.ext (by exact xx)) Y.heap.size 0 1 [[.int .i64 r]] rfl (by simp) (newRowAt _ [.int .i64 r] _ _ _ rfl rfl) (by simp [Value.oneCell']) HLEN.out (by simp; omega) ?_)
         intro v' W4 hown4 hb4
         obtain ⟨va', vn, vc', rfl⟩ := hown4.isSlice
         have hEa : Ext Y (Y.alloc (.cells #[.int .i64 r] 3)) := by exact xx
         have hr4 := (hb4.block Q HQ2).trans (HROW.out.ext hEa)
         have y2 : W4.cell? ⟨Q, 3, none⟩ = some (.slice sb nb cb) := by rw [cell_of_row _ _ _ _ _ _ hr4]; rfl
         have yf : W4.frozen? ⟨Q, 3, none⟩ = false := by simp [World.frozen?, hr4]
         have yz := (Array.getElem?_eq_some_iff.1 hr4).1
         have HR4 := Lib.hid hr4
         have HO4 := Lib.hid hown4
         have HK4 : Hid (Kept (fun g => g < X2.heap.size ∧ g ≠ Q) X2 W4) := Lib.hid ((HKP.out.trans ((Kept.of_below hEa).mono fun g hg _ => hg)).trans ⟨hb4.os, hb4.tape, hb4.output, hb4.size, fun g _ hg => hb4.block g hg.1⟩)
         clear hown4 hb4 hr4 hEa x3 xf
         go_wp2_with fail
         go_roundw
         case rel =>
          refine ⟨k + 1, va', vn, vc', by omega, by go_num, heap_setCell_row HR4.out 3 _, ?_, HK4.out.setCell (fun _ h => h.2 rfl) _⟩
          rw [HT.out, List.map_append]
          exact HO4.out.setOther HR4.out (by decide) 3 _
         case measure => simp [intOf]; omega
      ·have hke : k = b.n.toNat := by omega
       rw [hke, scT_next] at hown
       have HO5 := Lib.hid hown
       clear hown hrow hkp hEw hbk hke
       go_wp2_with fail
       go_roundw
       case rel => exact ⟨r + 1, sb, nb, cb, by omega, by go_num, HROW.out, HO5.out, HKP.out⟩
       case measure => simp [intOf]; omega
    ·have hlr2 : ¬ ((r : Int) < b.n) := hlr
     go_upto_region 21 with (fail)
     have hre : r = b.n.toNat := by omega
     rw [hre, scT_zero] at hown
     obtain ⟨S, hS⟩ : ∃ S, S = selTo σ (fun k => b.scr.contains k) b.n.toNat b.n.toNat := ⟨_, rfl⟩
     rw [← hS] at hown
     obtain ⟨_, _, e9, -, -, -⟩ := hown.oneInts.spec
     have hnb : nb0 = S.length := (Value.slice.inj e9).2.1
     subst hnb
     obtain ⟨X3, rfl⟩ : ∃ X3, X3 = wr := ⟨_, rfl⟩
     have HS3 := Lib.hid hS
     have HI3 : Hid (IsInts X3 .i64 (.slice sb0 S.length cb0) S) := Lib.hid hown.oneInts
     have HNS3 : Hid (∀ g, (Value.slice sb0 S.length cb0).ownBlock = some g → X2.heap.size ≤ g) := Lib.hid fun g hg => (hown.notOwn g hg).1
     have HB3 : Hid (IsRows X3 3 (.slice sa' b.bets.length c') ((b.bets.map (namB b.kd σ)).map betRow)) := Lib.hid (IsRows.kept hkp (.inr fun g hg => (HNB2.out g hg).1) HB2.out)
     have HR3 := Lib.hid hrow
     have HE3 := Lib.hid hEw
     clear hrow hown hkp hEw hbk k1 hz hre hS e9 HROW HOWN HKP hlr hlr2
     go_wp2_with fail
     go_loopw [13, 14] (fun gv iv W => ∃ (i : Nat) (qs : List (Value × List Int)), i ≤ ps.length ∧ iv = .int .i64 i ∧ LL W X3.heap.size gv qs ∧ finsOf qs = (namF b σ (finsOf ps)).take i ∧ Ext X3 W) (fun _ iv _ => ps.length - (intOf iv).toNat)
     case atStart => exact ⟨0, [], by omega, rfl, LL.nil _ _, rfl, Below.refl _ _⟩
     case round =>
      obtain ⟨i, qs, hi, rfl, hll, hqs, hE⟩ := hrel
      have HLL := Lib.hid hll
      have HQS := Lib.hid hqs
      have HE := Lib.hid hE
      obtain ⟨oa, on, oc, rfl⟩ := hll.own.isSlice
      have hbk := HBK.out.ext (HE3.out.trans' hE)
      by_cases hlt : i < ps.length
      ·have hii : (i : Int) < (ps.length : Int) := by omega
       obtain ⟨_, _, e9, -, -, hfc⟩ := HF.out.spec
       cases e9
       rcases hfc with hfc | ⟨fb, fo, rfl, hfc⟩
       ·rw [hfc] at hlt; simp at hlt
       have cf0 := hfc i hlt
       obtain ⟨x, hx⟩ : ∃ x, x = ps[i] := ⟨_, rfl⟩
       rw [← hx] at cf0
       have HXI : Hid (IsInts w .i64 x.1 x.2) := Lib.hid (HF.out.ints x (by rw [hx]; exact List.getElem_mem hlt))
       obtain ⟨_, _, e9, -, -, -⟩ := HXI.out.spec
       obtain ⟨xa, xc, hx1⟩ : ∃ xa xc, x.1 = .slice xa x.2.length xc := ⟨_, _, e9⟩
       rw [hx1] at cf0 HXI
       have hqlen : qs.length = i := by
        have h1 : (finsOf qs).length = qs.length := by simp [finsOf]
        have h2 : (namF b σ (finsOf ps)).length = ps.length := by simp [namF, finsOf]
        rw [hqs, List.length_take, h2] at h1
        omega
       have HNT : Hid ((namF b σ (finsOf ps)).take (i + 1) = (namF b σ (finsOf ps)).take i ++ [gpT b σ x.2 b.n.toNat 0]) := Lib.hid (by
        have h1 : i < (finsOf ps).length := by simpa [finsOf] using hlt
        rw [namF_take b σ h1]
        congr 3
        rw [hx]; simp [finsOf])
       have HCF := Lib.hid cf0
       have k1 := hbk.c1
       have hz := hbk.lt
       obtain ⟨X4, rfl⟩ : ∃ X4, X4 = wr := ⟨_, rfl⟩
       have hx34 := hE.size
       clear hll hqs hE hbk hfc cf0 hx hx1 e9
       go_wp2_with fail
       go_loopw [15, 16] (fun gv rv W => ∃ r : Nat, (r : Int) ≤ b.n ∧ rv = .int .i64 r ∧ Owns W X4.heap.size 3 1 gv ((gpT b σ x.2 r 0).map iRow) ∧ Ext X4 W) (fun _ rv _ => b.n.toNat - (intOf rv).toNat)
       case atStart => exact ⟨0, by omega, rfl, Owns.nil _ _ _ _, Below.refl _ _⟩
       case round =>
        obtain ⟨r, hr, rfl, hg, hE5⟩ := hrel
        obtain ⟨ga, gn, gc, rfl⟩ := hg.isSlice
        have HG := Lib.hid hg
        have HE5 := Lib.hid hE5
        replace k1 := cell_ext hE5 k1
        replace hz := World.block_lt_of_cell? _ _ k1
        simp only at hz
        by_cases hlr : (r : Int) < b.n
        ·clear hg hE5
         go_wp2_with fail
         go_loopw [15, 17] (fun gv kv W => ∃ k : Nat, (k : Int) ≤ b.n ∧ kv = .int .i64 k ∧ Owns W X4.heap.size 3 1 gv ((gpT b σ x.2 r k).map iRow) ∧ Ext X4 W) (fun _ kv _ => b.n.toNat - (intOf kv).toNat)
         case atStart => exact ⟨0, by omega, rfl, HG.out, HE5.out⟩
         case round =>
          obtain ⟨k, hk, rfl, hg, hE6⟩ := hrel
          obtain ⟨ga, gn, gc, rfl⟩ := hg.isSlice
          replace HG := Lib.hid hg
          have HE6 := Lib.hid hE6
          have hbk := HBK.out.ext (HE3.out.trans' (HE.out.trans' hE6))
          replace k1 := hbk.c1
          replace hz := hbk.lt
          by_cases hlk : (k : Int) < b.n
          ·have hkl : k < σ.length := by omega
           have hkli : (k : Int) < (σ.length : Int) := by omega
           have hEall := HE0.out.trans' (HE3.out.trans' (HE.out.trans' hE6))
           obtain ⟨_, _, he1, hcl⟩ := ints_cell HNS.out hkl
           cases he1
           obtain ⟨e0, hze⟩ := hcl wr hEall
           have cf0 := cell_ext hEall HCF.out
           have hzc := World.block_lt_of_cell? _ _ cf0
           simp only at hzc
           obtain ⟨p, hp⟩ : ∃ p, p = gt σ k := ⟨_, rfl⟩
           rw [← hp] at e0
           have HPN : Hid (nm σ k = p) := Lib.hid (by rw [hp]; rfl)
           have HXW := Lib.hid (HXI.out.ext hEall)
           have hz6 := hE6.size
           clear hg hE6 hbk hp hcl hEall
           by_cases hpr : p = (r : Int)
           rotate_left
           ·have f1 : (p == (r : Int)) = false := by rw [beq_eq_false_iff_ne]; exact hpr
            have HT : Hid (gpT b σ x.2 r (k + 1) = gpT b σ x.2 r k) := Lib.hid (by rw [gpT_succ, HPN.out, decide_eq_false hpr]; simp)
            clear hpr
            go_wp2_with fail
            go_roundw
            case rel => exact ⟨k + 1, by omega, by go_num, by rw [HT.out]; exact HG.out, HE6.out⟩
            case measure => simp [intOf]; omega
           ·have f1 : (p == (r : Int)) = true := by rw [beq_iff_eq]; exact hpr
            have HPR := Lib.hid hpr
            clear hpr
            go_wp2_with fail
            refine (has_any x.2 k _ _ (HXW.out.ext (by exact xx))).mono ?_
            rintro e Y ⟨rfl, hEY⟩
            have HEY := Lib.hid (HE6.out.trans' hEY)
            replace HG := Lib.hid (HG.out.ext hEY)
            have hyz := HEY.out.size
            replace k1 := cell_ext hEY k1
            replace hz := World.block_lt_of_cell? _ _ k1
            simp only at hz
            clear hEY e0 hze cf0 hzc
            cases hc : x.2.contains (k : Int)
            ·have HT : Hid (gpT b σ x.2 r (k + 1) = gpT b σ x.2 r k) := Lib.hid (by rw [gpT_succ, hc]; simp)
             clear hc
             go_wp2_with fail
             go_roundw
             case rel => exact ⟨k + 1, by omega, by go_num, by rw [HT.out]; exact HG.out, HEY.out⟩
             case measure => simp [intOf]; omega
            ·have HT : Hid (gpT b σ x.2 r (k + 1) = gpT b σ x.2 r k ++ [(r : Int)]) := Lib.hid (by rw [gpT_succ, hc, HPN.out, decide_eq_true HPR.out]; rfl)
             have HLEN : Hid (((gpT b σ x.2 r k).map iRow).length + [[Value.int .i64 r]].length ≤ 1000000) := Lib.hid (by have := gpT_len NAM.out x.2 r k; simp; omega)
             clear hc
             go_wp2_with (at_builtin; refine wpOwn rfl (.tmp 132) (.tmp 134) elInt rfl X4.heap.size rfl (HG.out.ext (by exact xx)) Y.heap.size 0 1 [[.int .i64 r]] rfl (by simp) (newRowAt _ [.int .i64 r] _ _ _ rfl rfl) (by simp [Value.oneCell']) HLEN.out (by simp; omega) ?_)
             intro v' W4 hown4 hb4
             obtain ⟨va', vn, vc', rfl⟩ := hown4.isSlice
             have hE4 : Ext X4 W4 := Below.trans (HEY.out.trans' (by exact xx : Ext Y (Y.alloc (.cells #[.int .i64 r] 3)))) hb4
             have HO4 := Lib.hid hown4
             have HE4 := Lib.hid hE4
             clear hown4 hb4 hE4
             go_wp2_with fail
             go_roundw
             case rel => exact ⟨k + 1, by omega, by go_num, by rw [HT.out, List.map_append]; exact HO4.out, HE4.out⟩
             case measure => simp [intOf]; omega
          ·have hke : k = b.n.toNat := by omega
           rw [hke, gpT_next] at hg
           have HG5 := Lib.hid hg
           clear hg hE6 hbk hke
           go_wp2_with fail
           go_roundw
           case rel => exact ⟨r + 1, by omega, by go_num, HG5.out, HE6.out⟩
           case measure => simp [intOf]; omega
        ·have hlr2 : ¬ ((r : Int) < b.n) := hlr
         have hre : r = b.n.toNat := by omega
         rw [hre] at hg
         obtain ⟨G, hG⟩ : ∃ G, G = gpT b σ x.2 b.n.toNat 0 := ⟨_, rfl⟩
         rw [← hG] at hg HNT
         obtain ⟨_, _, e9, -, -, -⟩ := hg.oneInts.spec
         have hgn : gn = G.length := (Value.slice.inj e9).2.1
         subst hgn
         obtain ⟨Y, rfl⟩ : ∃ Y, Y = wr := ⟨_, rfl⟩
         have HGG := Lib.hid hg
         have HLY := Lib.hid (HLL.out.ext hE5)
         have HFU := Lib.hid (HE.out.trans' hE5)
         have hyw := HFU.out.size
         have hy4 := hE5.size
         have HLEN : Hid ((qs.map fun x => [x.1]).length + [[Value.slice ga G.length gc]].length ≤ 1000000) := Lib.hid (by simp; omega)
         clear hg hE5 hre hG e9
         go_wp2_with (at_builtin; refine wpApp rfl (.tmp 136) (.tmp 138) elLst rfl X3.heap.size rfl (HLY.out.own.ext (by exact xx)) (some ⟨Y.heap.size, 0, none⟩) 1 [[.slice ga G.length gc]] rfl (by simp) (.inr ⟨_, 0, rfl, newRowAt _ [.slice ga G.length gc] _ _ _ rfl rfl⟩) (by simp [Value.oneCell']) HLEN.out (by simp; omega) ?_)
         intro v' W4 hown4 hk4
         have hEa : Ext Y (Y.alloc (.cells #[.slice ga G.length gc] 23)) := by exact xx
         have hoa := HLY.out.own.ext hEa
         have hll4 : LL W4 X3.heap.size v' (qs ++ [(.slice ga G.length gc, G)]) := by
          refine ⟨by rw [List.map_append]; exact hown4, fun z hz => ?_⟩
          rcases List.mem_append.1 hz with hz | hz
          ·exact ((HLY.out.each z hz).ext hEa).keep (by decide) hoa hk4
          ·simp only [List.mem_singleton] at hz
           subst hz
           exact ((HGG.out.ext hEa).base (by omega)).keep (by decide) hoa hk4
         have hE4 : Ext X3 W4 := Below.trans (HFU.out.trans' hEa) (hoa.keptBelow (by simp; omega) hk4)
         obtain ⟨va', vn, vc', rfl⟩ := hown4.isSlice
         have HL4 := Lib.hid hll4
         have HE4 := Lib.hid hE4
         clear hown4 hk4 hEa hoa hll4 hE4
         go_wp2_with fail
         go_roundw
         case rel => exact ⟨i + 1, _, by omega, by go_num, HL4.out, by rw [HNT.out, ← HQS.out]; simp [finsOf], HE4.out⟩
         case measure => simp [intOf]; omega
      ·have hii : ¬ ((i : Int) < (ps.length : Int)) := by omega
       have hie : i = ps.length := by omega
       have h2 : (namF b σ (finsOf ps)).length = ps.length := by simp [namF, finsOf]
       have HFQ : Hid (finsOf qs = namF b σ (finsOf ps)) := Lib.hid (by rw [hqs, hie, ← h2, List.take_length])
       have hr3 := HR3.out.ext hE
       have x0 := hr3.cell 0
       have x1 := hr3.cell 1
       have x2 := hr3.cell 2
       have x3 := hr3.cell 3
       have x4 := hr3.cell 4
       have x5 := hr3.cell 5
       have x6 := hr3.cell 6
       have x7 := hr3.cell 7
       have xz := hr3.lt
       simp only [List.getElem?_toArray, List.getElem?_cons_zero, List.getElem?_cons_succ] at x0 x1 x2 x3 x4 x5 x6 x7
       have hzr := (HZ0.out.ext HE3.out).ext hE
       have z0 := (hzr).cell 0
       have z1 := (hzr).cell 1
       have z2 := (hzr).cell 2
       have z3 := (hzr).cell 3
       have z4 := (hzr).cell 4
       have z5 := (hzr).cell 5
       have z6 := (hzr).cell 6
       have z7 := (hzr).cell 7
       have zf := fun o => (hzr).fr o
       have zz := (hzr).lt
       simp only [zRow, List.getElem?_toArray, List.getElem?_cons_zero, List.getElem?_cons_succ] at z0 z1 z2 z3 z4 z5 z6 z7
       have hwz : w.heap.size + 1 < X3.heap.size := (HZ0.out.ext HE3.out).lt
       have HFW := Lib.hid (HE0.out.trans' (HE3.out.trans' hE))
       have HEX3 := Lib.hid hE
       have HBW : Hid (IsRows wr 3 (.slice sa' b.bets.length c') ((b.bets.map (namB b.kd σ)).map betRow)) := Lib.hid (IsRows.ext hE HB3.out)
       have HIW := Lib.hid (HI3.out.ext hE)
       have HGW := Lib.hid hll.fin
       have HLK := Lib.hid hll
       have hQ2 : w.heap.size + 1 < Q := by have := HQW.out; omega
       have hxx : w.heap.size + 1 < X2.heap.size := by omega
       clear hll hqs hE hie h2 hbk hr3 hzr
       go_wp2_with fail
       refine bodyPost_ret (v := .tuple #[.agg #[.int .i64 b.kd, .int .i64 b.n, .slice sa' b.bets.length c', .slice sb0 S.length cb0, .bool b.fav, .int .i64 b.car, .int .i64 b.duty, .int .i64 b.step], .slice oa on oc]) (by simp [results, Try.results50, go_sem, z0, z1, z2, z3, z4, z5, z6, z7, zf]) rfl ?_
       have hkF : ∀ (a b c d e f x y : Value), Kept (fun k => k ≠ w.heap.size + 1) wr ((((((((wr.setCell ⟨w.heap.size + 1, 0, none⟩ a).setCell ⟨w.heap.size + 1, 1, none⟩ b).setCell ⟨w.heap.size + 1, 2, none⟩ c).setCell ⟨w.heap.size + 1, 3, none⟩ d).setCell ⟨w.heap.size + 1, 4, none⟩ e).setCell ⟨w.heap.size + 1, 5, none⟩ f).setCell ⟨w.heap.size + 1, 6, none⟩ x).setCell ⟨w.heap.size + 1, 7, none⟩ y) := fun _ _ _ _ _ _ _ _ =>
        ((((((((Kept.refl _ wr).setCell (fun _ h => h rfl) _).setCell (fun _ h => h rfl) _).setCell (fun _ h => h rfl) _).setCell (fun _ h => h rfl) _).setCell (fun _ h => h rfl) _).setCell (fun _ h => h rfl) _).setCell (fun _ h => h rfl) _).setCell (fun _ h => h rfl) _
       have hsc : (namC b σ).scr = S := HS3.out.symm
       have hbl : (namC b σ).bets.length = b.bets.length := by show (b.bets.map _).length = _; rw [List.length_map]
       refine ⟨ext_set8 HFW.out (Nat.le_succ _) _ _ _ _ _ _ _ _, sa', sb0, c', cb0, .slice oa on oc, qs, ?_, ⟨?_, ?_⟩, ?_, HFQ.out⟩
       ·unfold bookV
        rw [hbl, hsc]
        rfl
       ·rw [hbl]
        exact IsRows.kept (hkF _ _ _ _ _ _ _ _) (.inr fun g hg => by have := (HNB2.out g hg).2; omega) HBW.out
       ·rw [hsc]
        exact IsRows.kept (hkF _ _ _ _ _ _ _ _) (.inr fun g hg => by have := HNS3.out g hg; omega) HIW.out
       ·exact (HLK.out.kept (hkF _ _ _ _ _ _ _ _) fun g hg => by omega).fin
end Go.Proofs.Ytphajlldghcnnaa
