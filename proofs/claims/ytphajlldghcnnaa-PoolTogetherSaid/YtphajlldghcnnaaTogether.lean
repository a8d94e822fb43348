/-
 The statement PoolTogether holds: if two groups come in together, all that won still win, and no dividend of those that were backed is greater; for every valid book, and a finish by numbers. No condition.
-/
import Derived.Test.YtphajlldghcnnaaPza
import Derived.Test.YtphajlldghcnnaaPn
import Derived.Test.YtphajlldghcnnaaPm
import Derived.Test.YtphajlldghcnnaaBalanced
import Derived.Test.YtphajlldghcnnaaPx
import Derived.Test.YtphajlldghcnnaaRoveG
namespace Go.Proofs.Ytphajlldghcnnaa
open Go.RowKit Go.Shelf
/-- one of the lists of a list of lists is stored anew -/
theorem lists_set {W : World} {B n gc : Nat} {ga : Option Addr} {rows : List Value} (h : Owns W B 23 1 (.slice ga n gc) (rows.map fun x => [x])) {k : Nat} (hk : k < rows.length) :
  ∃ g, ga = some ⟨g, 0, none⟩ ∧ n = rows.length ∧ B ≤ g ∧ g < W.heap.size ∧ (∃ u, W.cell? ⟨g, k, none⟩ = some u) ∧ (∀ o, W.frozen? ⟨g, o, none⟩ = false) ∧ (∃ cur, W.heap[g]? = some (.cells cur 23 (0, 0))) ∧ ∀ u, IsRows (W.setCell ⟨g, k, none⟩ u) 1 (.slice (some ⟨g, 0, none⟩) n gc) ((rows.set k u).map fun x => [x]) := by
 have hr := h.isRows
 obtain ⟨sa, cap, e1, e2, e3, e4⟩ := hr
 have hn : n = rows.length := by
  have := (Value.slice.inj e1).2.1
  simpa using this
 have hs : ga = sa := (Value.slice.inj e1).1
 have hc0 : gc = cap := (Value.slice.inj e1).2.2
 subst hn hs hc0
 rw [List.length_map] at e2
 rcases h.1.2 with a | ⟨g, cap2, cur, hv, hb, hg, hrr⟩
 ·have h0 := a.2
  rw [List.length_map] at h0
  omega
 ·have hga : ga = some ⟨g, 0, none⟩ := (Value.slice.inj hv).1
  subst hga
  rcases e4 with e4 | ⟨b, off, e5, e4⟩
  ·rw [List.map_eq_nil_iff] at e4
   rw [e4] at hk; simp at hk
  ·cases e5
   have hc := e4 k (by simpa using hk) 0 (by simp)
   simp only [Nat.mul_one, Nat.zero_add, Nat.add_zero] at hc
   have hlt := World.block_lt_of_cell? _ _ hc
   refine ⟨g, rfl, rfl, hb, hlt, ⟨_, hc⟩, fun o => by simp [World.frozen?, hg], ⟨cur, hg⟩, fun u => ⟨_, _, by simp, by simpa using e2, e3, .inr ⟨g, 0, rfl, ?_⟩⟩⟩
   intro i hi j hj
   have hj0 : j = 0 := by
    rw [List.getElem_map] at hj
    simpa using hj
   subst hj0
   have hi' : i < rows.length := by simpa using hi
   have hci := e4 i (by simpa using hi') 0 (by simp)
   simp only [Nat.mul_one, Nat.zero_add, Nat.add_zero, List.getElem_map, List.getElem_cons_zero] at hci ⊢
   rw [List.getElem_set]
   by_cases e : k = i
   ·subst e
    rw [if_pos rfl]
    exact World.cell?_setCell_same _ _ _ hci
   ·rw [if_neg e, World.cell?_setCell_other _ _ _ _ (by intro h; simp only [Addr.mk.injEq] at h; omega)]
    exact hci
theorem eraseIdx_at {α : Type} {l : List α} {i k : Nat} (hi : i < l.length) : (l.take (i + 1)).eraseIdx k = (l.take i).eraseIdx k ++ if i = k then [] else [l[i]] := by
 rw [List.take_add_one, List.getElem?_eq_getElem hi]
 have hl : (l.take i).length = i := by rw [List.length_take]; omega
 simp only [Option.toList]
 by_cases h : i = k
 ·subst h
  rw [if_pos rfl, List.eraseIdx_append_of_length_le (by omega), hl, Nat.sub_self, List.eraseIdx_of_length_le (l := l.take i) (by omega)]
  rfl
 ·rw [if_neg h]
  rcases Nat.lt_or_ge k i with h2 | h2
  ·rw [List.eraseIdx_append_of_lt_length (by omega)]
  ·rw [List.eraseIdx_append_of_length_le (by omega), List.eraseIdx_of_length_le (l := l.take i) (by omega), List.eraseIdx_of_length_le (by simp; omega)]
theorem len_flat : ∀ {fs : List (List Int)}, (∀ g ∈ fs, g ≠ []) → fs.length ≤ fs.flatten.length
 | [], _ => by simp
 | g :: l, h => by
  have h1 := List.length_pos_iff.2 (h g (by simp))
  have h2 := len_flat (fs := l) fun x hx => h x (by simp [hx])
  rw [List.flatten_cons, List.length_append, List.length_cons]
  omega
theorem map_erase {α β : Type} (f : α → β) : ∀ (l : List α) (k : Nat), (l.map f).eraseIdx k = (l.eraseIdx k).map f
 | [], _ => rfl
 | _ :: _, 0 => rfl
 | a :: l, k + 1 => by simp [map_erase f l k]
theorem erase_len {α : Type} (l : List α) (k : Nat) : (l.eraseIdx k).length ≤ l.length := by
 rw [List.length_eraseIdx]; split <;> omega
set_option maxRecDepth 200000 in
set_option maxHeartbeats 8000000 in
theorem poolTogether_any (b : Bk) (ba sa : Option Addr) (bcap scap : Nat) (nv : Value) (bs : List Int) (wi : Int) (w : World) (hv : IsBook w b ba bcap sa scap) (hb : IsRows w 1 nv (bs.map fun n => [.int .u8 n])) (hw8 : ∀ x ∈ bs, (Lit.int .u8 x).wf = true) (hwi : (Lit.int .u8 wi).wf = true) : Calls Try.prog 12 #[.agg #[.int .i64 b.kd, .int .i64 b.n, .slice ba b.bets.length bcap, .slice sa b.scr.length scap, .bool b.fav, .int .i64 b.car, .int .i64 b.duty, .int .i64 b.step], nv, .int .u8 wi] w fun e w' => e = .returned (.bool true) ∧ Ext w w' := by
 have hbI : IsInts w .u8 nv bs := hb
 obtain ⟨na, ncap, rfl, hn1, hn2, -⟩ := hbI.spec
 have HN := Lib.hid hbI
 have H8 := Lib.hid (u8l hw8)
 clear hb hbI hw8
 have HV := Lib.hid hv
 clear hv
 go_enter Try.func12, Try.ntmps12
 go_upto_region 1 with (fail)
 obtain ⟨W0, hW0⟩ : ∃ W0, W0 = w.alloc (.cells #[.int .i64 b.kd, .int .i64 b.n, .slice ba b.bets.length bcap, .slice sa b.scr.length scap, .bool b.fav, .int .i64 b.car, .int .i64 b.duty, .int .i64 b.step] 25) := ⟨_, rfl⟩
 have hE : Ext w W0 := by rw [hW0]; exact xx
 have k0 : W0.cell? ⟨w.heap.size, 0, none⟩ = some (.int .i64 b.kd) := by rw [hW0]; simp [go_sem]
 have k1 : W0.cell? ⟨w.heap.size, 1, none⟩ = some (.int .i64 b.n) := by rw [hW0]; simp [go_sem]
 have k2 : W0.cell? ⟨w.heap.size, 2, none⟩ = some (.slice ba b.bets.length bcap) := by rw [hW0]; simp [go_sem]
 have k3 : W0.cell? ⟨w.heap.size, 3, none⟩ = some (.slice sa b.scr.length scap) := by rw [hW0]; simp [go_sem]
 have k4 : W0.cell? ⟨w.heap.size, 4, none⟩ = some (.bool b.fav) := by rw [hW0]; simp [go_sem]
 have k5 : W0.cell? ⟨w.heap.size, 5, none⟩ = some (.int .i64 b.car) := by rw [hW0]; simp [go_sem]
 have k6 : W0.cell? ⟨w.heap.size, 6, none⟩ = some (.int .i64 b.duty) := by rw [hW0]; simp [go_sem]
 have k7 : W0.cell? ⟨w.heap.size, 7, none⟩ = some (.int .i64 b.step) := by rw [hW0]; simp [go_sem]
 have hz : w.heap.size < W0.heap.size := World.block_lt_of_cell? _ _ k0
 have HS := Lib.hid (HV.out.ext hE)
 have HW := Lib.hid hE
 rw [← hW0]
 clear hW0 HV
 have HNW := Lib.hid (HN.out.ext hE)
 clear hE HN




 go_wp2_with fail
 refine callW (W0 := W0) (g := ⟨W0, Below.refl _ _⟩) xx (fineL_any b ba sa bcap scap _ (HS.out.ext xx)) fun g1 hgr => ?_
 clear hgr
 cases hfi : fineB b
 ·skip

  go_wp2_with fail
  refine callW (W0 := W0) (g := g1) xx (worksL_any _) fun g2 hgr => ?_
  clear hgr
  go_wp2_with fail
  go_ret
  exact ⟨rfl, HW.out.trans' (grow_below W0 _)⟩

 have H0 := Lib.hid (fine_val hfi)
 have V := Lib.hid (bval_of (fine_val hfi))
 clear hfi
 by_cases hl : 20 < bs.length
 ·have hli : (20 : Int) < (bs.length : Int) := by omega
  have HL := Lib.hid hl
  clear hl

  go_wp2_with fail
  refine callW (W0 := W0) (g := g1) xx (worksL_any _) fun g3 hgr => ?_
  clear hgr
  go_wp2_with fail
  go_ret
  exact ⟨rfl, HW.out.trans' (grow_below W0 _)⟩

 have hli : ¬ ((20 : Int) < (bs.length : Int)) := by omega
 have HL := Lib.hid hl
 clear hl
 go_wp2_with fail
 refine callWR (W0 := W0) (g := g1) xx (finishL_any _ bs b ba sa bcap scap _ (HS.out.ext xx) V.out (HNW.out.ext xx) H8.out) (fun _ _ ⟨_, _, _, r, _⟩ => r) fun _ g4 hgr hr => ?_
 obtain ⟨fv, ps, rfl, -, hll, hfs⟩ := hr
 clear hgr
 obtain ⟨fa, fcap, rfl, -, -, -⟩ := hll.fin.spec
 have HF := Lib.hid hll.fin
 have FV : Hid (FinV b (finsOf ps)) := Lib.hid (by rw [hfs]; exact finL_val V.out bs)
 have FE := Lib.hid (finErr_of H0.out FV.out)
 clear hll hfs

 by_cases h2 : ps.length < 2
 ·have h2i : (ps.length : Int) < 2 := by omega
  have HL2 := Lib.hid h2
  clear h2

  go_wp2_with fail
  refine callW (W0 := W0) (g := g4) xx (worksL_any _) fun g5 hgr => ?_
  replace HF := Lib.hid (HF.out.ext hgr)
  clear hgr
  go_wp2_with fail
  go_ret
  exact ⟨rfl, HW.out.trans' (grow_below W0 _)⟩

 have h2i : ¬ ((ps.length : Int) < 2) := by omega
 have hpl : ps.length ≤ 8 := by
  have h1 := FV.out.len
  have h3 := runL_le FV.out.book
  have h4 : (finsOf ps).length ≤ (finsOf ps).flatten.length := len_flat FV.out.ne
  rw [show (finsOf ps).length = ps.length by simp [finsOf]] at h4
  omega
 have hwb := bounds_u8 hwi
 obtain ⟨wn, rfl⟩ : ∃ wn : Nat, wi = (wn : Int) := ⟨wi.toNat, by omega⟩
 obtain ⟨k, hk⟩ : ∃ k, k = wn % (ps.length - 1) := ⟨_, rfl⟩
 have hkl : k + 1 < ps.length := by
  have := Nat.mod_lt wn (show 0 < ps.length - 1 by omega)
  omega
 have hwx : IntKind.i64.wrap (wn : Int) = (wn : Int) := IntWalk.i64_in _ (by omega)
 have hmt : Int.tmod (wn : Int) ((ps.length : Int) - 1) = (k : Int) := by
  rw [Int.tmod_eq_emod_of_nonneg (by omega), hk, Int.natCast_emod]
  congr 1; omega
 have hp1 : ¬ ((ps.length : Int) - 1 = 0) := by omega
 have hp2 : (((ps.length : Int) - 1) == 0) = false := by rw [beq_eq_false_iff_ne]; exact hp1
 go_upto_region 8 with (fail)
 obtain ⟨U, hU⟩ : ∃ zz9, zz9 = (grow W0 g4) := ⟨_, rfl⟩
 have eU : Ext W0 U := by rw [hU]; exact xx
 have eUc : Ext (grow W0 g4) U := by rw [hU]; exact xx
 replace k0 := cell_ext eU k0
 replace k1 := cell_ext eU k1
 replace k2 := cell_ext eU k2
 replace k3 := cell_ext eU k3
 replace k4 := cell_ext eU k4
 replace k5 := cell_ext eU k5
 replace k6 := cell_ext eU k6
 replace k7 := cell_ext eU k7
 replace HS := Lib.hid (HS.out.ext eU)
 replace HNW := Lib.hid (HNW.out.ext eU)
 replace HF := Lib.hid (HF.out.ext eUc)
 replace HW := Lib.hid (HW.out.trans' eU)
 rw [← hU]
 replace hz := World.block_lt_of_cell? _ _ k0
 clear hU eU eUc
 simp only at hz
 have HK := Lib.hid k1
 have kk0 := Lib.hid k0
 have kk2 := Lib.hid k2
 have kk3 := Lib.hid k3
 have kk4 := Lib.hid k4
 have kk5 := Lib.hid k5
 have kk6 := Lib.hid k6
 have kk7 := Lib.hid k7
 have hme1 : (wn : Int) % ((ps.length - 1 : Nat) : Int) = (k : Int) := by rw [hk, Int.natCast_emod]
 rw [hme1]
 clear hk hwx hmt hme1 hp1 hp2 h2 h2i hwb hwi k0 k2 k3 k4 k5 k6 k7
 go_wp2_with fail
 go_loopw [9, 10] (fun gv iv W => ∃ i : Nat, i ≤ ps.length ∧ iv = .int .i64 i ∧ Owns W U.heap.size 23 1 gv (((ps.take i).eraseIdx (k + 1)).map fun x => [x.1]) ∧ Ext U W) (fun _ iv _ => ps.length - (intOf iv).toNat)
 case atStart => exact ⟨0, by omega, rfl, by simp; exact Owns.nil _ _ _ _, Below.refl _ _⟩
 case round =>
  obtain ⟨i, hi, rfl, hg, hE⟩ := hrel
  have HG := Lib.hid hg
  have HE := Lib.hid hE
  obtain ⟨ga, gn, gc, rfl⟩ := hg.isSlice
  replace k1 := cell_ext hE k1
  have hzw := hE.size
  obtain ⟨_, _, e9, -, -, hfc⟩ := (HF.out.ext hE).spec
  cases e9
  by_cases hlt : i < ps.length
  ·have hii : (i : Int) < (ps.length : Int) := by omega
   rcases hfc with h0 | ⟨fb, fo, rfl, hfc⟩
   ·rw [h0] at hlt; simp at hlt
   have c0 := hfc i hlt
   have hea := eraseIdx_at (k := k + 1) hlt
   have hel := erase_len (ps.take i) (k + 1)
   rw [List.length_take] at hel
   obtain ⟨x, hx⟩ : ∃ x, x = ps[i] := ⟨_, rfl⟩
   rw [← hx] at c0 hea
   obtain ⟨_, _, e9, -, -, -⟩ := (HF.out.ints x (by rw [hx]; exact List.getElem_mem hlt)).spec
   obtain ⟨xa, xc, hx1⟩ : ∃ xa xc, x.1 = .slice xa x.2.length xc := ⟨_, _, e9⟩
   rw [hx1] at c0
   have hzf := World.block_lt_of_cell? _ _ c0
   simp only at hzf
   have HEA := Lib.hid hea
   have HX1 := Lib.hid hx1
   clear hg hE hfc e9 hx hea hx1
   by_cases hik : i = k + 1
   ·have hki : (i : Int) = (k : Int) + 1 := by omega
    have hkb : ((i : Int) != (k : Int) + 1) = false := by rw [bne_eq_false_iff_eq]; exact hki
    have HEQ : Hid ((ps.take (i + 1)).eraseIdx (k + 1) = (ps.take i).eraseIdx (k + 1)) := Lib.hid (by rw [HEA.out, if_pos hik, List.append_nil])
    clear hik hki
    go_wp2_with fail
    go_roundw
    case rel => exact ⟨i + 1, by omega, by go_num, by rw [HEQ.out]; exact HG.out, HE.out⟩
    case measure => simp [intOf]; omega
   ·have hki : ¬ ((i : Int) = (k : Int) + 1) := by omega
    have hkb : ((i : Int) != (k : Int) + 1) = true := by rw [bne_iff_ne]; exact hki
    have HEQ : Hid ((ps.take (i + 1)).eraseIdx (k + 1) = (ps.take i).eraseIdx (k + 1) ++ [x]) := Lib.hid (by rw [HEA.out, if_neg hik])
    have HLEN : Hid ((((ps.take i).eraseIdx (k + 1)).map fun x => [x.1]).length + [[Value.slice xa x.2.length xc]].length ≤ 1000000) := Lib.hid (by simp; omega)
    clear hik hki
    go_wp2_with (at_builtin; refine wpApp rfl (.tmp 57) (.tmp 62) elLst rfl U.heap.size rfl (HG.out.ext (by exact xx)) (some ⟨wr.heap.size, 0, none⟩) 1 [[.slice xa x.2.length xc]] rfl (by simp) (.inr ⟨_, 0, rfl, newRowAt _ [.slice xa x.2.length xc] _ _ _ rfl rfl⟩) (by simp [Value.oneCell']) HLEN.out (by simp; omega) ?_)
    intro v' W4 hown4 hk4
    have hEa : Ext wr (wr.alloc (.cells #[.slice xa x.2.length xc] 23)) := by exact xx
    have hE4 : Ext U W4 := Below.trans (HE.out.trans' hEa) ((HG.out.ext hEa).keptBelow (by simp; omega) hk4)
    obtain ⟨va, vn, vc, rfl⟩ := hown4.isSlice
    have HO4 := Lib.hid hown4
    have HE4 := Lib.hid hE4
    clear hown4 hk4 hEa hE4
    go_wp2_with fail
    go_roundw
    case rel => exact ⟨i + 1, by omega, by go_num, by rw [HEQ.out, List.map_append, List.map_singleton, HX1.out]; exact HO4.out, HE4.out⟩
    case measure => simp [intOf]; omega
  ·have hii : ¬ ((i : Int) < (ps.length : Int)) := by omega
   have hie : i = ps.length := by omega
   rw [hie, List.take_length] at hg
   have HG2 := Lib.hid hg
   rcases hfc with h0 | ⟨fb, fo, rfl, hfc⟩
   ·rw [h0] at hkl; simp at hkl
   have HFC := Lib.hid hfc
   obtain ⟨x, hx⟩ : ∃ x, x = ps[k] := ⟨_, rfl⟩
   obtain ⟨y, hy⟩ : ∃ y, y = ps[k + 1] := ⟨_, rfl⟩
   obtain ⟨_, _, e9, -, -, -⟩ := (HF.out.ints x (by rw [hx]; exact List.getElem_mem _)).spec
   obtain ⟨xa, xc, hx1⟩ : ∃ xa xc, x.1 = .slice xa x.2.length xc := ⟨_, _, e9⟩
   obtain ⟨_, _, e9, -, -, -⟩ := (HF.out.ints y (by rw [hy]; exact List.getElem_mem _)).spec
   obtain ⟨ya, yc, hy1⟩ : ∃ ya yc, y.1 = .slice ya y.2.length yc := ⟨_, _, e9⟩
   have HXI : Hid (IsInts U .i64 (.slice xa x.2.length xc) x.2) := Lib.hid (by rw [← hx1]; exact HF.out.ints x (by rw [hx]; exact List.getElem_mem _))
   have HYI : Hid (IsInts U .i64 (.slice ya y.2.length yc) y.2) := Lib.hid (by rw [← hy1]; exact HF.out.ints y (by rw [hy]; exact List.getElem_mem _))
   have HXC : Hid (∀ W, Ext U W → W.cell? ⟨fb, fo + k, none⟩ = some (.slice xa x.2.length xc) ∧ W.cell? ⟨fb, fo + (k + 1), none⟩ = some (.slice ya y.2.length yc)) := Lib.hid fun W e => by
    obtain ⟨_, _, e1, -, -, h0⟩ := (HF.out.ext e).spec
    cases e1
    rcases h0 with h0 | ⟨fb2, fo2, e2, h0⟩
    ·rw [h0] at hkl; simp at hkl
    ·cases e2
     refine ⟨(h0 k (by omega)).trans ?_, (h0 (k + 1) hkl).trans ?_⟩
     ·rw [← hx, hx1]
     ·rw [← hy, hy1]
   have hgd1 : (finsOf ps).getD k [] = x.2 := by
    rw [List.getD_eq_getElem?_getD, List.getElem?_eq_getElem (by simp [finsOf]; omega), hx]
    simp [finsOf]
   have hgd2 : (finsOf ps).getD (k + 1) [] = y.2 := by
    rw [List.getD_eq_getElem?_getD, List.getElem?_eq_getElem (by simp [finsOf]; omega), hy]
    simp [finsOf]
   have HD1 := Lib.hid hgd1
   have HD2 := Lib.hid hgd2
   have HXM : Hid (∀ z ∈ ps, IsInts U .i64 z.1 z.2) := Lib.hid HF.out.ints
   have hvn := V.out.n
   obtain ⟨X, rfl⟩ : ∃ X, X = wr := ⟨_, rfl⟩
   clear HG hg hie hE hfc e9 hx1 hy1 hx hy hgd1 hgd2
   go_wp2_with fail
   go_loopw [11, 12] (fun bv rv W => ∃ r : Nat, (r : Int) ≤ b.n ∧ rv = .int .i64 r ∧ Owns W X.heap.size 3 1 bv ((bothTo x.2 y.2 r).map iRow) ∧ Ext X W) (fun _ rv _ => b.n.toNat - (intOf rv).toNat)
   case atStart => exact ⟨0, by omega, rfl, Owns.nil _ _ _ _, Below.refl _ _⟩
   case round =>
    obtain ⟨r, hr, rfl, hg, hE3⟩ := hrel
    have HB := Lib.hid hg
    have HE3 := Lib.hid hE3
    obtain ⟨va, vn, vc, rfl⟩ := hg.isSlice
    replace k1 := cell_ext hE3 k1
    replace hz := World.block_lt_of_cell? _ _ k1
    simp only at hz
    have hz3 := hE3.size
    obtain ⟨c0, c1⟩ := HXC.out wr (HE.out.trans' hE3)
    have c1' : wr.cell? ⟨fb, fo + k + 1, none⟩ = some (.slice ya y.2.length yc) := c1
    have hzf := World.block_lt_of_cell? _ _ c0
    simp only at hzf
    have hki : (k : Int) < (ps.length : Int) := by omega
    have hki2 : (k : Int) + 1 < (ps.length : Int) := by omega
    by_cases hlt : (r : Int) < b.n
    ·clear hg hE3
     go_wp2_with fail
     refine (has_any x.2 r _ _ (HXI.out.ext (HE.out.trans' (HE3.out.trans' (by exact xx))))).mono ?_
     rintro e Y ⟨rfl, hEY⟩
     have HEY := Lib.hid (HE3.out.trans' hEY)
     have HBY := Lib.hid (HB.out.ext hEY)
     have hyz := HEY.out.size
     replace k1 := cell_ext hEY k1
     replace c0 := cell_ext hEY c0
     replace c1 := cell_ext hEY c1
     replace c1' := cell_ext hEY c1'
     replace hz := World.block_lt_of_cell? _ _ k1
     replace hzf := World.block_lt_of_cell? _ _ c0
     simp only at hz hzf
     clear hEY
     cases hc : x.2.contains (r : Int)
     ·have HC := Lib.hid hc
      clear hc
      go_wp2_with fail
      refine (has_any y.2 r _ _ (HYI.out.ext (HE.out.trans' (HEY.out.trans' (by exact xx))))).mono ?_
      rintro e Z ⟨rfl, hEZ⟩
      have HEZ := Lib.hid (HEY.out.trans' hEZ)
      have HBZ := Lib.hid (HBY.out.ext hEZ)
      have hzz := HEZ.out.size
      replace k1 := cell_ext hEZ k1
      replace hz := World.block_lt_of_cell? _ _ k1
      simp only at hz
      clear hEZ c0 c1 c1'
      cases hc : y.2.contains (r : Int)
      ·have HT : Hid (bothTo x.2 y.2 (r + 1) = bothTo x.2 y.2 r) := Lib.hid (by rw [bothTo_succ, HC.out, hc]; simp)
       clear hc
       go_wp2_with fail
       go_roundw
       case rel => exact ⟨r + 1, by omega, by go_num, by rw [HT.out]; exact HBZ.out, HEZ.out⟩
       case measure => simp [intOf]; omega
      ·have HT : Hid (bothTo x.2 y.2 (r + 1) = bothTo x.2 y.2 r ++ [(r : Int)]) := Lib.hid (by rw [bothTo_succ, HC.out, hc]; simp)
       clear hc
       have HLEN : Hid (((bothTo x.2 y.2 r).map iRow).length + [[Value.int .i64 r]].length ≤ 1000000) := Lib.hid (by have := bothTo_len x.2 y.2 r; simp; omega)
       go_wp2_with (at_builtin; refine wpOwn rfl (.tmp 85) (.tmp 87) elInt rfl X.heap.size rfl (HBZ.out.ext (by exact xx)) Z.heap.size 0 1 [[.int .i64 r]] rfl (by simp) (newRowAt _ [.int .i64 r] _ _ _ rfl rfl) (by simp [Value.oneCell']) HLEN.out (by simp; omega) ?_)
       intro v' W4 hown4 hb4
       obtain ⟨ua, un, uc, rfl⟩ := hown4.isSlice
       have hE4 : Ext X W4 := Below.trans (HEZ.out.trans' (by exact xx : Ext Z (Z.alloc (.cells #[.int .i64 r] 3)))) hb4
       have HO4 := Lib.hid hown4
       have HE4 := Lib.hid hE4
       clear hown4 hb4 hE4
       go_wp2_with fail
       go_roundw
       case rel => exact ⟨r + 1, by omega, by go_num, by rw [HT.out, List.map_append]; exact HO4.out, HE4.out⟩
       case measure => simp [intOf]; omega
     ·have HT : Hid (bothTo x.2 y.2 (r + 1) = bothTo x.2 y.2 r ++ [(r : Int)]) := Lib.hid (by rw [bothTo_succ, hc]; simp)
      clear hc c0 c1 c1'
      have HLEN : Hid (((bothTo x.2 y.2 r).map iRow).length + [[Value.int .i64 r]].length ≤ 1000000) := Lib.hid (by have := bothTo_len x.2 y.2 r; simp; omega)
      go_wp2_with (at_builtin; refine wpOwn rfl (.tmp 85) (.tmp 87) elInt rfl X.heap.size rfl (HBY.out.ext (by exact xx)) Y.heap.size 0 1 [[.int .i64 r]] rfl (by simp) (newRowAt _ [.int .i64 r] _ _ _ rfl rfl) (by simp [Value.oneCell']) HLEN.out (by simp; omega) ?_)
      intro v' W4 hown4 hb4
      obtain ⟨ua, un, uc, rfl⟩ := hown4.isSlice
      have hE4 : Ext X W4 := Below.trans (HEY.out.trans' (by exact xx : Ext Y (Y.alloc (.cells #[.int .i64 r] 3)))) hb4
      have HO4 := Lib.hid hown4
      have HE4 := Lib.hid hE4
      clear hown4 hb4 hE4
      go_wp2_with fail
      go_roundw
      case rel => exact ⟨r + 1, by omega, by go_num, by rw [HT.out, List.map_append]; exact HO4.out, HE4.out⟩
      case measure => simp [intOf]; omega
    ·have hre : r = b.n.toNat := by omega
     rw [hre] at hg
     obtain ⟨B, hB⟩ : ∃ B, B = bothP b x.2 y.2 := ⟨_, rfl⟩
     have hB2 : bothTo x.2 y.2 b.n.toNat = B := hB.symm
     rw [hB2] at hg
     obtain ⟨_, _, e9, -, -, -⟩ := hg.oneInts.spec
     cases e9
     have hmp : (ps.eraseIdx (k + 1)).map (fun x => [x.1]) = ((ps.eraseIdx (k + 1)).map (·.1)).map fun v => [v] := by rw [List.map_map]; rfl
     have hg2 := HG2.out.ext hE3
     rw [hmp] at hg2
     have hle : (ps.eraseIdx (k + 1)).length = ps.length - 1 := by rw [List.length_eraseIdx]; split <;> omega
     have hkq : k < ((ps.eraseIdx (k + 1)).map (·.1)).length := by rw [List.length_map, hle]; omega
     obtain ⟨gg, rfl, hgn, hgU, hgz, ⟨uu, hcu⟩, hfr, ⟨cur, hcur⟩, hset⟩ := lists_set hg2 hkq
     rw [List.length_map] at hgn
     have hgx : gg < X.heap.size := by
      have h1 := HG2.out
      rw [hmp] at h1
      obtain ⟨g', e1, -, -, h2, -⟩ := lists_set h1 hkq
      cases e1; exact h2
     have hki : (k : Int) < (gn : Int) := by rw [hgn, hle]; omega
     have hkn : k < gn := by rw [hgn, hle]; omega
     have HBI := Lib.hid hg
     have HBP := Lib.hid hB
     clear hB
     have HSET := Lib.hid hset
     have HGN := Lib.hid hgn
     have HCUR := Lib.hid hcur
     obtain ⟨Y, rfl⟩ : ∃ Y, Y = wr := ⟨_, rfl⟩
     clear hB2 hg hg2 hre hmp hset c0 c1 c1' HB
     go_upto_region 20 with (fail)
     obtain ⟨Z, hZ⟩ : ∃ Z, Z = Y.setCell ⟨gg, k, none⟩ (.slice va B.length vc) := ⟨_, rfl⟩
     obtain ⟨qs, hqs⟩ : ∃ qs, qs = (ps.eraseIdx (k + 1)).set k (.slice va B.length vc, B) := ⟨_, rfl⟩
     have hE : Ext U Z := by
      rw [hZ]
      exact (HE.out.trans' hE3).setCell hgU _
     have hql : gn = qs.length := by rw [hgn, hqs, List.length_set]
     have hq1 : IsFin Z (.slice (some ⟨gg, 0, none⟩) gn gc) qs := by
      refine ⟨?_, fun z hz => ?_⟩
      ·have h1 := HSET.out (.slice va B.length vc)
       rw [← hZ] at h1
       have e : (((ps.eraseIdx (k + 1)).map (·.1)).set k (.slice va B.length vc)).map (fun v => [v]) = qs.map fun x => [x.1] := by
        rw [hqs]
        simp only [List.map_set, List.map_map]
        rfl
       rwa [e] at h1
      ·rw [hqs] at hz
       rcases List.mem_or_eq_of_mem_set hz with hz | rfl
       ·exact (HXM.out z (List.mem_of_mem_eraseIdx hz)).ext hE
       ·have hk : Kept (fun j => j ≠ gg) Y Z := by
         rw [hZ]
         exact (Kept.refl _ _).setCell (fun _ h => h rfl) _
        exact (HBI.out.keptAt hk fun g cur hb hv _ => by omega).oneInts
     have hqf : finsOf qs = togP b (finsOf ps) k := by
      unfold togP
      rw [HD1.out, HD2.out, ← HBP.out, hqs]
      unfold finsOf
      rw [List.map_set, ← map_erase]
     have hfk : k + 1 < (finsOf ps).length := by simpa [finsOf] using hkl
     have GV : Hid (FinV b (finsOf qs)) := Lib.hid (by rw [hqf]; exact tog_val FV.out hfk)
     have GE := Lib.hid (finErr_of H0.out GV.out)
     have HSUB : Hid (∀ s ∈ winsP b (finsOf ps), s ∈ winsP b (finsOf qs)) := Lib.hid fun s hs => by rw [hqf]; exact tog_wins FV.out hfk hs
     have HQ := Lib.hid hq1
     rw [← hZ, hql]
     rw [hql] at HQ
     have i0 := cell_ext hE kk0.out
     have i1 := cell_ext hE HK.out
     have i2 := cell_ext hE kk2.out
     have i3 := cell_ext hE kk3.out
     have i4 := cell_ext hE kk4.out
     have i5 := cell_ext hE kk5.out
     have i6 := cell_ext hE kk6.out
     have i7 := cell_ext hE kk7.out
     have iz := World.block_lt_of_cell? _ _ i0
     simp only at iz
     have HSZ := Lib.hid (HS.out.ext hE)
     have HFZ := Lib.hid (HF.out.ext hE)
     have HWZ := Lib.hid (HW.out.trans' hE)
     clear hZ hE hE3 hq1 hqf hqs hql hfk hcu hfr hcur hgU hgx hgn hkn hki hki2 hkq hle hzf hz3 hgz k1 hz hlt hr HBI HSET HGN HCUR





     obtain ⟨L, hL⟩ : ∃ L, L = winsP b (finsOf ps) := ⟨_, rfl⟩
     obtain ⟨M, hM⟩ : ∃ M, M = winsP b (finsOf qs) := ⟨_, rfl⟩
     obtain ⟨D, hD⟩ : ∃ D, D = divP b (finsOf ps) := ⟨_, rfl⟩
     obtain ⟨N, hN⟩ : ∃ N, N = divP b (finsOf qs) := ⟨_, rfl⟩
     have t1 := fun w h1 h2 => winnersP_any ps (.slice (some ⟨fb, fo, none⟩) ps.length fcap) b ba sa bcap scap w h1 h2
     have t2 := fun w h1 h2 => winnersP_any qs (.slice (some ⟨gg, 0, none⟩) qs.length gc) b ba sa bcap scap w h1 h2
     have t3 := fun w h1 h2 => paidL_any ps (.slice (some ⟨fb, fo, none⟩) ps.length fcap) b ba sa bcap scap w h1 h2 FE.out
     have t4 := fun w h1 h2 => paidL_any qs (.slice (some ⟨gg, 0, none⟩) qs.length gc) b ba sa bcap scap w h1 h2 GE.out
     have hwl : winL b (finsOf ps) = L := by unfold winL; rw [if_pos FE.out, hL]
     have hwm : winL b (finsOf qs) = M := by unfold winL; rw [if_pos GE.out, hM]
     unfold RetWin at t1 t2
     unfold RetPaid at t3 t4
     rw [hwl, FE.out] at t1
     rw [hwm, GE.out] at t2
     rw [← hD] at t3
     rw [← hN] at t4
     have T1 := Lib.hid t1
     have T2 := Lib.hid t2
     have T3 := Lib.hid t3
     have T4 := Lib.hid t4
     have l1 : L.length ≤ 64 := by rw [hL]; exact winsP_le FV.out
     have l2 : M.length ≤ 64 := by rw [hM]; exact winsP_le GV.out
     have l3 : D.length ≤ 64 := by rw [hD]; exact divP_le FV.out
     have l4 : N.length ≤ 64 := by rw [hN]; exact divP_le GV.out
     have hsub : ∀ s ∈ L, s ∈ M := by rw [hL, hM]; exact HSUB.out
     have hdn : D.length ≤ N.length := by
      rw [hD, hN, divP_len, divP_len]
      exact (back_sub FV.out GV.out HSUB.out).1
     have hpe : ∀ i, (h : i < D.length) → penceF N D[i].1 ≤ D[i].2 := by
      intro i h
      have hm : D[i] ∈ divP b (finsOf ps) := by rw [← hD]; exact List.getElem_mem h
      unfold divP at hm
      obtain ⟨s, hs, he⟩ := List.mem_map.1 hm
      rw [← he, hN]
      exact tog_pence FV.out GV.out HSUB.out hs
     have HLM := Lib.hid hsub
     have HDN := Lib.hid hdn
     have HPE := Lib.hid hpe
     clear t1 t2 t3 t4 hwl hwm hL hM hD hN hsub hdn hpe
     go_wp2_with fail
     refine callWR (W0 := Z) (g := ⟨Z, Below.refl _ _⟩) xx (T1.out _ (HSZ.out.ext xx) (HFZ.out.ext xx)) (fun _ _ h => h.1) fun _ g1 hgr hr => ?_
     obtain ⟨-, u, rfl, hU⟩ := hr
     clear hgr
     obtain ⟨la, lc, rfl, hu1, hu2, -⟩ := two_cells hU
     have HL1 := Lib.hid hU
     clear hU

     go_wp2_with fail
     refine callWR (W0 := Z) (g := g1) xx (T2.out _ (HSZ.out.ext xx) (HQ.out.ext xx)) (fun _ _ h => h.1) fun _ g2 hgr hr => ?_
     obtain ⟨-, u, rfl, hU⟩ := hr
     replace HL1 := Lib.hid (HL1.out.ext hgr)
     clear hgr
     obtain ⟨ma, mc, rfl, hv1, hv2, -⟩ := two_cells hU
     have HM1 := Lib.hid hU
     clear hU

     go_wp2_with fail
     refine callWR (W0 := Z) (g := g2) xx (T3.out _ (HSZ.out.ext xx) (HFZ.out.ext xx)) (fun _ _ h => h.1) fun _ g3 hgr hr => ?_
     obtain ⟨-, u, rfl, hU⟩ := hr
     replace HL1 := Lib.hid (HL1.out.ext hgr)
     replace HM1 := Lib.hid (HM1.out.ext hgr)
     clear hgr
     obtain ⟨da, dc, rfl, hx1, hx2, -⟩ := dvd_cells hU
     have HD3 := Lib.hid hU
     clear hU

     go_wp2_with fail
     refine callWR (W0 := Z) (g := g3) xx (T4.out _ (HSZ.out.ext xx) (HQ.out.ext xx)) (fun _ _ h => h.1) fun _ g4 hgr hr => ?_
     obtain ⟨-, u, rfl, hU⟩ := hr
     replace HL1 := Lib.hid (HL1.out.ext hgr)
     replace HM1 := Lib.hid (HM1.out.ext hgr)
     replace HD3 := Lib.hid (HD3.out.ext hgr)
     clear hgr
     obtain ⟨na2, nc2, rfl, hy1, hy2, -⟩ := dvd_cells hU
     have HN4 := Lib.hid hU
     clear hU

     go_upto_region 24 with (fail)
     obtain ⟨T, hT⟩ : ∃ zz9, zz9 = (grow Z g4) := ⟨_, rfl⟩
     have eT : Ext Z T := by rw [hT]; exact xx
     have eTc : Ext (grow Z g4) T := by rw [hT]; exact xx
     replace i0 := cell_ext eT i0
     replace i1 := cell_ext eT i1
     replace i2 := cell_ext eT i2
     replace i3 := cell_ext eT i3
     replace i4 := cell_ext eT i4
     replace i5 := cell_ext eT i5
     replace i6 := cell_ext eT i6
     replace i7 := cell_ext eT i7
     replace HSZ := Lib.hid (HSZ.out.ext eT)
     replace HFZ := Lib.hid (HFZ.out.ext eT)
     replace HQ := Lib.hid (HQ.out.ext eT)
     replace HL1 := Lib.hid (HL1.out.ext eTc)
     replace HM1 := Lib.hid (HM1.out.ext eTc)
     replace HD3 := Lib.hid (HD3.out.ext eTc)
     replace HN4 := Lib.hid (HN4.out.ext eTc)
     replace HWZ := Lib.hid (HWZ.out.trans' eT)
     rw [← hT]
     replace iz := World.block_lt_of_cell? _ _ i0
     clear hT eT eTc
     clear i0 i1 i2 i3 i4 i5 i6 i7 iz HSZ HFZ HQ
     go_wp2_with fail
     go_loopw [21] (fun iv W => ∃ i : Nat, i ≤ L.length ∧ iv = .int .i64 i ∧ Ext T W) (fun iv _ => L.length - (intOf iv).toNat)
     case atStart => exact ⟨0, by omega, rfl, Below.refl _ _⟩
     case round =>
      obtain ⟨i, hi, rfl, hE⟩ := hrel
      have HET := Lib.hid hE
      by_cases hlt : i < L.length
      ·have hii : (i : Int) < (L.length : Int) := by omega
       obtain ⟨_, _, e9, -, -, hcc⟩ := two_cells HL1.out
       cases e9
       obtain ⟨lb, lo, hs9, hcd⟩ := hcc i hlt
       subst hs9
       have hmem : L[i] ∈ M := HLM.out _ (List.getElem_mem hlt)
       obtain ⟨s, hs⟩ : ∃ s, s = L[i] := ⟨_, rfl⟩
       rw [← hs] at hcd hmem
       obtain ⟨s1, s2⟩ := s
       have HCD := Lib.hid hcd
       have HMM := Lib.hid hmem
       clear hs hcc hcd hE hmem
       go_wp2_with fail
       go_loopw [22, 23] (fun sv jv W => ∃ (j : Nat) (c : Bool), j ≤ M.length ∧ jv = .int .i64 j ∧ sv = .bool c ∧ (c = true ↔ (s1, s2) ∈ M.take j) ∧ Ext T W) (fun _ jv _ => M.length - (intOf jv).toNat)
       case atStart => exact ⟨0, false, by omega, rfl, rfl, by simp, HET.out⟩
       case round =>
        obtain ⟨j, c, hj, rfl, rfl, hc, hE⟩ := hrel
        have HE2 := Lib.hid hE
        by_cases hlt2 : j < M.length
        ·have hji : (j : Int) < (M.length : Int) := by omega
         have hst : (s1, s2) ∈ M.take (j + 1) ↔ (s1, s2) ∈ M.take j ∨ (s1, s2) = M[j] := by
          rw [List.take_add_one, List.getElem?_eq_getElem hlt2, List.mem_append]
          simp
         cases c
         ·obtain ⟨_, _, e9, -, -, hcc⟩ := two_cells HM1.out
          cases e9
          obtain ⟨mb, mo, hs9, hcd⟩ := hcc j hlt2
          subst hs9
          obtain ⟨m0, m1, hzm⟩ := hcd wr hE
          obtain ⟨l0, l1', hzl⟩ := HCD.out wr hE
          obtain ⟨z, hz⟩ : ∃ z, z = M[j] := ⟨_, rfl⟩
          rw [← hz] at m0 m1 hst
          obtain ⟨z1, z2⟩ := z
          simp only at m0 m1 l0 l1'
          have heq := fun W => eql_two W z1 z2 s1 s2
          have HC := Lib.hid hc
          by_cases he : z1 = s1 ∧ z2 = s2
          ·have heq2 : (z1 == s1 && z2 == s2) = true := by rw [he.1, he.2]; simp
           simp only [heq2] at heq
           have HS2 : Hid ((s1, s2) ∈ M.take (j + 1)) := Lib.hid (by rw [hst, he.1, he.2]; simp)
           clear heq2 he hst hz hcc hcd hE hc
           go_wp2_with fail
           go_quiet (fail)
           go_wp2_with fail
           go_roundw
           case rel => exact ⟨j + 1, true, by omega, by go_num, rfl, ⟨fun _ => HS2.out, fun _ => rfl⟩, HE2.out.drN _⟩
           case measure => simp [intOf]; omega
          ·have heq2 : (z1 == s1 && z2 == s2) = false := by
            rw [Bool.and_eq_false_iff, beq_eq_false_iff_ne, beq_eq_false_iff_ne]
            by_cases e : z1 = s1
            ·exact .inr fun e2 => he ⟨e, e2⟩
            ·exact .inl e
           simp only [heq2] at heq
           have HS2 : Hid (¬ (s1, s2) ∈ M.take (j + 1)) := Lib.hid (by
            rw [hst, ← hc]
            rintro (h | h)
            ·cases h
            ·exact he ⟨(Prod.mk.inj h).1.symm, (Prod.mk.inj h).2.symm⟩)
           clear heq2 he hst hz hcc hcd hE hc
           go_wp2_with fail
           go_quiet (fail)
           go_wp2_with fail
           go_roundw
           case rel => exact ⟨j + 1, false, by omega, by go_num, rfl, ⟨(fun h => by cases h), fun h => absurd h HS2.out⟩, HE2.out.drN _⟩
           case measure => simp [intOf]; omega
         ·have HS2 : Hid ((s1, s2) ∈ M.take (j + 1)) := Lib.hid (by rw [hst, ← hc]; simp)
          clear hst hE hc
          go_wp2_with fail
          go_quiet (fail)
          go_wp2_with fail
          go_roundw
          case rel => exact ⟨j + 1, true, by omega, by go_num, rfl, ⟨fun _ => HS2.out, fun _ => rfl⟩, HE2.out.drN _⟩
          case measure => simp [intOf]; omega
        ·have hji : ¬ ((j : Int) < (M.length : Int)) := by omega
         have hje : j = M.length := by omega
         have hct : c = true := hc.2 (by rw [hje, List.take_length]; exact HMM.out)
         subst hct
         clear hc hje hE
         go_wp2_with fail
         go_roundw
         case rel => exact ⟨i + 1, by omega, by go_num, HE2.out⟩
         case measure => simp [intOf]; omega
      ·have hii : ¬ ((i : Int) < (L.length : Int)) := by omega
       clear hE
       go_wp2_with fail
       go_loopw [24] (fun iv W => ∃ i : Nat, i ≤ D.length ∧ iv = .int .i64 i ∧ Ext T W) (fun iv _ => D.length - (intOf iv).toNat)
       case atStart => exact ⟨0, by omega, rfl, HET.out⟩
       case round =>
        obtain ⟨j, hj, rfl, hE⟩ := hrel
        have HE2 := Lib.hid hE
        by_cases hlt2 : j < D.length
        ·have hji : (j : Int) < (D.length : Int) := by omega
         obtain ⟨_, _, e9, -, -, hcc⟩ := dvd_cells HD3.out
         cases e9
         obtain ⟨db, dof, hs9, hcd⟩ := hcc j hlt2
         subst hs9
         obtain ⟨m0, m1, m2, hzm⟩ := hcd wr hE
         have hmo := HPE.out j hlt2
         obtain ⟨y, hy⟩ : ∃ y, y = D[j] := ⟨_, rfl⟩
         rw [← hy] at m0 m1 m2 hmo
         obtain ⟨⟨y1, y2⟩, y3⟩ := y
         simp only at m0 m1 m2 hmo
         obtain ⟨f1, hf1⟩ : ∃ f, f = penceF N (y1, y2) := ⟨_, rfl⟩
         have t1 := fun w h => penceL_any N y1 y2 (.slice na2 N.length nc2) w h
         rw [← hf1] at t1 hmo
         have T1 := Lib.hid t1
         have x1 : ¬ y3 < f1 := by omega
         clear t1 hf1 hy hcc hcd hE hmo
         go_upto_region 39 with (fail)
         refine wp_region_rove (wr.heap.size) (Nat.le_refl _)
          [sqV (.slice na2 N.length nc2), sqV (.slice (some ⟨db, dof, none⟩) D.length dc), sqV (.int .i64 j), sqV (.pointer (some ⟨db, dof + j * 3, none⟩)), sqV (.pointer (some ⟨db, dof + j * 3, none⟩)), sqV (.int .i64 y1), sqV (.slice (some ⟨db, dof, none⟩) D.length dc), sqV (.int .i64 j), sqV (.pointer (some ⟨db, dof + j * 3, none⟩)), sqV (.pointer (some ⟨db, dof + j * 3 + 1, none⟩)), sqV (.int .i64 y2), sqV (.int .i64 f1), sqV (.slice (some ⟨db, dof, none⟩) D.length dc), sqV (.int .i64 j), sqV (.pointer (some ⟨db, dof + j * 3, none⟩)), sqV (.pointer (some ⟨db, dof + j * 3 + 2, none⟩)), sqV (.int .i64 y3), sqV (.bool false)]
          [true, true, true, true, true, true, true, true, true, true, true, true, true, true, true, true, true, true] [false, false, false, false, false, false, false, false, false, false, false, false, false, false, false, false, false, false] [true, true, true, true, true, true, true, true, true, true, true, true, true, true, true, true, true, true] [true, true, true, true, true, true, true, true, true, true, true, true, true, true, true, true, true, true]
          (by kernel_rfl) (by kernel_rfl) (by decide +kernel) (by decide +kernel) (by decide +kernel) rfl ⟨rfl, rfl⟩ ⟨?s0, ?s1, ?s2, ?s3, ?s4, ?s5, ?s6, ?s7, ?s8, ?s9, ?s10, ?s11, ?s12, ?s13, ?s14, ?s15, ?s16, ?s17, trivial⟩ [some 163, some 164, some 165, some 166, some 167, some 168, some 169, some 170, some 171, some 172, some 173, some 174, some 175, some 176, some 177, some 178, some 179, some 180] rfl rfl ?send
         case s0 =>
          intro val ρ W hE hz hd hA hx
          have o0 : ρ (.tmp 19) = .slice na2 N.length nc2 := hA.old 19 (by decide)
          clear hd
          exact runq_val (W' := W) (by simp [execOp, o0, go_sem]) (Below.refl _ _) rfl
         case s1 =>
          intro val ρ W hE hz hd hA hx
          have o0 : ρ (.tmp 17) = .slice (some ⟨db, dof, none⟩) D.length dc := hA.old 17 (by decide)
          clear hd
          exact runq_val (W' := W) (by simp [execOp, o0, go_sem]) (Below.refl _ _) rfl
         case s2 =>
          intro val ρ W hE hz hd hA hx
          have o0 : ρ (.tmp 24) = .int .i64 j := hA.old 24 (by decide)
          clear hd
          exact runq_val (W' := W) (by simp [execOp, o0, go_sem]) (Below.refl _ _) rfl
         case s3 =>
          intro val ρ W hE hz hd hA hx
          have d1 : ρ (.tmp 164) = .slice (some ⟨db, dof, none⟩) D.length dc := (hA.dep 1 (by decide) 164 rfl).trans (hd 1 (by decide))
          have d2 : ρ (.tmp 165) = .int .i64 j := (hA.dep 2 (by decide) 165 rfl).trans (hd 2 (by decide))
          clear hd
          exact runq_val (W' := W) (by simp [execOp, d1, d2, hji, hlt2, go_sem]) (Below.refl _ _) rfl
         case s4 =>
          intro val ρ W hE hz hd hA hx
          have d3 : ρ (.tmp 166) = .pointer (some ⟨db, dof + j * 3, none⟩) := (hA.dep 3 (by decide) 166 rfl).trans (hd 3 (by decide))
          clear hd
          exact runq_val (W' := W) (by simp [execOp, d3, go_sem]) (Below.refl _ _) rfl
         case s5 =>
          intro val ρ W hE hz hd hA hx
          have d4 : ρ (.tmp 167) = .pointer (some ⟨db, dof + j * 3, none⟩) := (hA.dep 4 (by decide) 167 rfl).trans (hd 4 (by decide))
          have f_m0 := cell_below hE (by simp only; omega) m0
          clear hd
          exact runq_val (W' := W) (by simp [execOp, d4, f_m0, go_sem]) (Below.refl _ _) rfl
         case s6 =>
          intro val ρ W hE hz hd hA hx
          have o0 : ρ (.tmp 17) = .slice (some ⟨db, dof, none⟩) D.length dc := hA.old 17 (by decide)
          clear hd
          exact runq_val (W' := W) (by simp [execOp, o0, go_sem]) (Below.refl _ _) rfl
         case s7 =>
          intro val ρ W hE hz hd hA hx
          have o0 : ρ (.tmp 24) = .int .i64 j := hA.old 24 (by decide)
          clear hd
          exact runq_val (W' := W) (by simp [execOp, o0, go_sem]) (Below.refl _ _) rfl
         case s8 =>
          intro val ρ W hE hz hd hA hx
          have d6 : ρ (.tmp 169) = .slice (some ⟨db, dof, none⟩) D.length dc := (hA.dep 6 (by decide) 169 rfl).trans (hd 6 (by decide))
          have d7 : ρ (.tmp 170) = .int .i64 j := (hA.dep 7 (by decide) 170 rfl).trans (hd 7 (by decide))
          clear hd
          exact runq_val (W' := W) (by simp [execOp, d6, d7, hji, hlt2, go_sem]) (Below.refl _ _) rfl
         case s9 =>
          intro val ρ W hE hz hd hA hx
          have d8 : ρ (.tmp 171) = .pointer (some ⟨db, dof + j * 3, none⟩) := (hA.dep 8 (by decide) 171 rfl).trans (hd 8 (by decide))
          clear hd
          exact runq_val (W' := W) (by simp [execOp, d8, go_sem]) (Below.refl _ _) rfl
         case s10 =>
          intro val ρ W hE hz hd hA hx
          have d9 : ρ (.tmp 172) = .pointer (some ⟨db, dof + j * 3 + 1, none⟩) := (hA.dep 9 (by decide) 172 rfl).trans (hd 9 (by decide))
          have f_m1 := cell_below hE (by simp only; omega) m1
          clear hd
          exact runq_val (W' := W) (by simp [execOp, d9, f_m1, go_sem]) (Below.refl _ _) rfl
         case s11 =>
          intro val ρ W hE hz hd hA hx
          have d0 : ρ (.tmp 163) = .slice na2 N.length nc2 := (hA.dep 0 (by decide) 163 rfl).trans (hd 0 (by decide))
          have d5 : ρ (.tmp 168) = .int .i64 y1 := (hA.dep 5 (by decide) 168 rfl).trans (hd 5 (by decide))
          have d10 : ρ (.tmp 173) = .int .i64 y2 := (hA.dep 10 (by decide) 173 rfl).trans (hd 10 (by decide))
          clear hd
          refine runq_call 48 _ _ rfl #[.slice na2 N.length nc2, .int .i64 y1, .int .i64 y2] (hA.func _) (by simp [d0, d5, d10]) (fun args W => Try.call48 args W) ((T1.out W (HN4.out.ext (HE2.out.trans' hE))).mono ?_)
          rintro e w' ⟨rfl, hb⟩
          exact ⟨_, rfl, hb, rfl⟩
         case s12 =>
          intro val ρ W hE hz hd hA hx
          have o0 : ρ (.tmp 17) = .slice (some ⟨db, dof, none⟩) D.length dc := hA.old 17 (by decide)
          clear hd
          exact runq_val (W' := W) (by simp [execOp, o0, go_sem]) (Below.refl _ _) rfl
         case s13 =>
          intro val ρ W hE hz hd hA hx
          have o0 : ρ (.tmp 24) = .int .i64 j := hA.old 24 (by decide)
          clear hd
          exact runq_val (W' := W) (by simp [execOp, o0, go_sem]) (Below.refl _ _) rfl
         case s14 =>
          intro val ρ W hE hz hd hA hx
          have d12 : ρ (.tmp 175) = .slice (some ⟨db, dof, none⟩) D.length dc := (hA.dep 12 (by decide) 175 rfl).trans (hd 12 (by decide))
          have d13 : ρ (.tmp 176) = .int .i64 j := (hA.dep 13 (by decide) 176 rfl).trans (hd 13 (by decide))
          clear hd
          exact runq_val (W' := W) (by simp [execOp, d12, d13, hji, hlt2, go_sem]) (Below.refl _ _) rfl
         case s15 =>
          intro val ρ W hE hz hd hA hx
          have d14 : ρ (.tmp 177) = .pointer (some ⟨db, dof + j * 3, none⟩) := (hA.dep 14 (by decide) 177 rfl).trans (hd 14 (by decide))
          clear hd
          exact runq_val (W' := W) (by simp [execOp, d14, go_sem]) (Below.refl _ _) rfl
         case s16 =>
          intro val ρ W hE hz hd hA hx
          have d15 : ρ (.tmp 178) = .pointer (some ⟨db, dof + j * 3 + 2, none⟩) := (hA.dep 15 (by decide) 178 rfl).trans (hd 15 (by decide))
          have f_m2 := cell_below hE (by simp only; omega) m2
          clear hd
          exact runq_val (W' := W) (by simp [execOp, d15, f_m2, go_sem]) (Below.refl _ _) rfl
         case s17 =>
          intro val ρ W hE hz hd hA hx
          have d11 : ρ (.tmp 174) = .int .i64 f1 := (hA.dep 11 (by decide) 174 rfl).trans (hd 11 (by decide))
          have d16 : ρ (.tmp 179) = .int .i64 y3 := (hA.dep 16 (by decide) 179 rfl).trans (hd 16 (by decide))
          clear hd
          exact runq_val (W' := W) (by simp [execOp, d11, d16, x1, go_sem]) (Below.refl _ _) rfl
         case send =>
          intro val WW hE hzz hv
          obtain ⟨-, -, -, -, -, -, -, -, -, -, -, -, -, -, -, -, -, r17, -⟩ := hv
          have q17 : val 17 = .bool false := r17
          simp only [putD, q17]
          go_frame
          have HE3 := Lib.hid (HE2.out.trans' hE)
          clear hE hzz q17 m0 m1 m2 hzm
          go_wp2_with fail
          go_roundw
          case rel => exact ⟨j + 1, by omega, by go_num, HE3.out⟩
          case measure => simp [intOf]; omega
        ·have hji : ¬ ((j : Int) < (D.length : Int)) := by omega
         have hdn : (D.length : Int) ≤ (N.length : Int) := by have := HDN.out; omega
         have hdn2 : D.length ≤ N.length := HDN.out
         obtain ⟨gk, rfl⟩ := grow_of hE
         clear hE
         go_wp2_with fail
         refine (worksL_any _).mono ?_
         rintro e W9 ⟨rfl, hE9⟩
         have HE9 := Lib.hid (HE2.out.trans' hE9)
         clear hE9
         go_wp2_with fail
         go_ret
         exact ⟨rfl, HWZ.out.trans' HE9.out⟩
end Go.Proofs.Ytphajlldghcnnaa
namespace Go.Proofs.Ytphajlldghcnnaa
open Go.RowKit
open Go.ChangeShapes Go.WideShapes Go.ChangeAt in
set_option maxRecDepth 100000 in
theorem poolTogether_lifted (os : Os) (started : os.Started) (H : Type) (enc : TypeId × Value → H) :
  ReturnsInHanded {} Try.checked os 12 .any (Rows.poolTogetherSpec.pre6 enc Try.prog Try.f12 Rows.poolTogetherRow.domain false) (Rows.poolTogetherSpec.post enc Try.prog Try.f12 false true false false) := by
 refine returnsInHanded_of_change (C := Try.checked) own started (by kernel_rfl) Try.func12
  (ChangeSpec.witness6 (enc := enc) (C := Try.checked) false ⟨#[], #[.agg #[.int .i64 0, .int .i64 0, .slice none 0 0, .slice none 0 0, .bool false, .int .i64 0, .int .i64 0, .int .i64 0], .slice none 0 0, .int .u8 0], []⟩ 8 (by kernel_rfl) (by kernel_rfl) (by kernel_rfl) (by kernel_rfl)) ?_
 intro W base args ds gs before hval0 hW hcnd _
 have hval : ∀ (j : Nat) t v, Try.f12.params[j]? = some t → args[j]? = some v → Value.okWide Try.prog W .any base t v := hval0
 have hW' := hW
 obtain ⟨p, q, hA0, hV, rfl, hfz, hnd⟩ := hW
 have hA : DataW.TrodAll enc Try.prog W 0 (fun _ => true) true Try.f12.params.toList args.toList ds p := hA0
 rw [Try.params12] at hA hval
 obtain ⟨v0, vs0, d0, ds0, p0, q0, hargs, rfl, rfl, h0, r0⟩ := trodAll_cons hA
 obtain ⟨v1, vs1, d1, ds1, p1, q1, rfl, rfl, rfl, h1, r1⟩ := trodAll_cons r0
 obtain ⟨v2, vs2, d2, ds2, p2, q2, rfl, rfl, rfl, h2, r2⟩ := trodAll_cons r1
 obtain ⟨rfl, rfl, rfl⟩ := trodAll_nil r2
 obtain rfl : args = #[v0, v1, v2] := by cases args; simp_all
 obtain ⟨b, ba, bs, bc, bd, rfl, hb⟩ := openBook (hval 0 25 v0 rfl rfl) h0
 obtain ⟨ns, hns, wns⟩ := openNumsK (k := .u8) Try.underlying59 Try.underlying5 (by kernel_rfl) (hval 1 59 v1 rfl rfl) h1
 obtain ⟨k, rfl, rfl, rfl, wk⟩ := open_int Try.underlying5 (hval 2 5 v2 rfl rfl) h2
 clear hA0 hval0
 refine (poolTogether_any b ba bs bc bd v1 ns k W hb hns wns wk).mono fun e W' ⟨he, hb⟩ => ?_
 subst he
 exact ⟨_, rfl, law_post laidOut (tb := 4) (hts_of (by kernel_rfl)) (by kernel_rfl) Try.underlying4 hW' rfl rfl hb⟩
theorem poolTogether_holds : Rows.PoolTogetherSaid :=
 OpenClaim.holds_of_wide 12 Try.f12 rfl rfl rfl rfl rfl rfl rfl ⟨rfl, rfl, rfl, rfl, rfl⟩ rfl rfl rfl rfl rfl (by kernel_rfl) Try.func12 (by kernel_rfl)
  (of_decide_eq_true (by kernel_rfl)) (by unfold Func.isWrapper; first | (rw [if_pos (by decide +kernel)]; kernel_rfl) | (rw [if_neg (by decide +kernel)]; exact ⟨rfl, rfl⟩))
  (fun os started H enc _ => poolTogether_lifted os started H enc)
end Go.Proofs.Ytphajlldghcnnaa
