/-
 The walks of slices.Grow at the nil slice, of slices.Concat, and of firsts: the runners of the first groups, increasing.
 The walks of firsts and pair: the runners of the first groups, increasing, and whether two of them win together.
 A function with a label, inside a fence: a scope through which the run goes without a goto, and the label itself.
 The walks of winners and of its iterator: it yields what wins.
 Plain: of a finish of a valid book: its groups are the runners, once each.
-/
import Derived.Test.YtphajlldghcnnaaPg
import Derived.Lib.AppendZeros
import Derived.Test.YtphajlldghcnnaaPb
import Derived.OwnWalkIn
import Derived.WalkMore
import Derived.Test.YtphajlldghcnnaaPa
namespace Go.Proofs.Ytphajlldghcnnaa
open Go.RowKit Go.Shelf
/-- a slice of numbers that a call has made -/
def OwnI (W : World) (B : Nat) (v : Value) (l : List Int) : Prop := Owns W B 3 1 v (l.map iRow)
theorem OwnI.ext {W W' : World} {B : Nat} {v : Value} {l : List Int} (h : OwnI W B v l) (e : Ext W W') : OwnI W' B v l := Owns.ext e h
theorem infoI : ∃ i, Try.prog.info? 3 = some i ∧ i.zero = some (.int .i64 0) ∧ i.size = 1 ∧ i.bytes = 8 := info_parts (by kernel_rfl)
set_option maxRecDepth 100000 in
set_option maxHeartbeats 1000000 in
theorem growNil_any (n : Nat) (w : World) (hn : n ≤ 1000) :
  Calls Try.prog 124 #[.slice none 0 0, .int .i64 n] w fun e w' => ∃ v, e = .returned v ∧ Ext w w' ∧ Owns w' w.heap.size 3 1 v ([].map iRow) := by
 have hw1 : IntKind.i64.wrap (n : Int) = (n : Int) := IntWalk.i64_in _ (by omega)
 have d1 : ¬ ((n : Int) < 0) := by omega
 by_cases h0 : n = 0
 ·subst h0
  go_enter Try.func124, Try.ntmps124
  go_wp2_with fail
  go_ret
  exact ⟨_, rfl, by exact xx, Owns.nil _ _ _ _⟩
 ·have d2 : decide ((0 : Int) < (n : Int)) = true := decide_eq_true (by omega)
  have d3 : (0 : Int) < (n : Int) := by omega
  obtain ⟨i, hi, hz, hs, hby⟩ := infoI
  have hrun := fun (ty : TypeId) (W : World) => Lib.run_append_nil_zeros (P := Try.prog) W 23 3 ty 3 i (.int .i64 0) .i64 .i64 (by kernel_rfl) (by kernel_rfl) hi hz n (by omega) (by omega) (by omega) (by rw [hby]; omega)
  have HR := Lib.hid hrun
  clear hrun hi hz hs hby
  go_enter Try.func124, Try.ntmps124
  go_wp2_with (at_builtin; refine Lib.wpList_append_run _ rfl (.tmp 20) (.tmp 21) 23 3 rfl (.slice none 0 0) (.int .i64 n) rfl rfl _ _ (HR.out _ _) ?_)
  obtain ⟨cp, hcp⟩ : ∃ cp, cp = grownCap w n 0 3 := ⟨_, rfl⟩
  have hge : n ≤ cp := by rw [hcp]; exact grownCap_ge _ _ _ _
  have hle : cp ≤ maxLen := by rw [hcp]; exact grownCap_le_maxLen _ _ _ _ (by simp [maxLen]; omega)
  rw [← hcp]
  obtain ⟨W1, hW1⟩ : ∃ W1, W1 = (w.alloc (.cells (Builtin.zeroCells #[.int .i64 0] n ++ Builtin.zeroCells #[.int .i64 0] (cp - n)) 3)).drew := ⟨_, rfl⟩
  have hrow : W1.heap[w.heap.size]? = some (.cells (Builtin.zeroCells #[.int .i64 0] n ++ Builtin.zeroCells #[.int .i64 0] (cp - n)) 3 (0, 0)) := by
   rw [hW1]; exact World.alloc_heap_new w _
  have hE : Ext w W1 := by rw [hW1]; exact xx
  have hown : Owns W1 w.heap.size 3 1 (.slice (some ⟨w.heap.size, 0, none⟩) 0 cp) ([].map iRow) :=
   ⟨⟨by simp, .inr ⟨w.heap.size, cp, _, by simp, Nat.le_refl _, hrow, by simp, hle, by simp [size_zeroCells]; omega, by simp⟩⟩, by simp⟩
  rw [← hW1]
  clear hW1 hrow hcp hle
  go_ret
  exact ⟨_, rfl, hE, hown⟩
theorem flat_take {fs : List (List Int)} {k : Nat} (h : k < fs.length) : (fs.take (k + 1)).flatten = (fs.take k).flatten ++ fs[k] := by
 rw [List.take_add_one, List.getElem?_eq_getElem h, List.flatten_append]
 simp only [Option.toList_some, List.flatten_cons, List.flatten_nil, List.append_nil]
theorem flat_le (fs : List (List Int)) (k : Nat) : (fs.take k).flatten.length ≤ fs.flatten.length := by
 conv => rhs; rw [← List.take_append_drop k fs]
 rw [List.flatten_append, List.length_append]; omega
set_option maxRecDepth 100000 in
set_option maxHeartbeats 1000000 in
theorem concat_any (ps : List (Value × List Int)) (fv : Value) (w : World) (hf : IsFin w fv ps) (hl : (finsOf ps).flatten.length ≤ 1000) (hne : ∀ x ∈ ps, x.2 ≠ []) :
  Calls Try.prog 116 #[fv] w fun e w' => ∃ v, e = .returned v ∧ Ext w w' ∧ OwnI w' w.heap.size v (finsOf ps).flatten := by
 obtain ⟨fa, fcap, rfl, hf1, hf2, -⟩ := hf.spec
 have HF := Lib.hid hf
 have HL := Lib.hid hl
 have HNE := Lib.hid hne
 have hfl : (finsOf ps).length = ps.length := by simp [finsOf]
 have HFL := Lib.hid hfl
 clear hf hl hfl hne
 go_enter Try.func116, Try.ntmps116
 go_wp2_with fail
 go_loopw [3, 11] (fun sv iv W => ∃ k : Nat, k ≤ ps.length ∧ iv = .int .i64 k ∧ sv = .int .i64 (((finsOf ps).take k).flatten.length : Nat) ∧ Ext w W) (fun _ iv _ => ps.length - (intOf iv).toNat)
 case atStart => exact ⟨0, by omega, rfl, by simp, Below.refl _ _⟩
 case round =>
  obtain ⟨k, hk, rfl, rfl, hE⟩ := hrel
  have HE := Lib.hid hE
  have hb1 := Nat.le_trans (flat_le (finsOf ps) k) HL.out
  by_cases hlt : k < ps.length
  ·have hki : (k : Int) < (ps.length : Int) := by omega
   obtain ⟨_, _, e, -, -, hcc⟩ := HF.out.spec
   cases e
   rcases hcc with hcc | ⟨fb, fo, rfl, hcc⟩
   ·rw [hcc] at hlt; simp at hlt
   have cf := cell_ext hE (hcc k hlt)
   have hI := HF.out.ints ps[k] (List.getElem_mem hlt)
   have hft := flat_take (fs := finsOf ps) (k := k) (by rw [HFL.out]; exact hlt)
   have hb2 := Nat.le_trans (flat_le (finsOf ps) (k + 1)) HL.out
   have hfk : (finsOf ps)[k]'(by rw [HFL.out]; exact hlt) = ps[k].2 := by simp [finsOf]
   rw [hfk] at hft
   obtain ⟨gv, hgv⟩ : ∃ gv, gv = ps[k].1 := ⟨_, rfl⟩
   obtain ⟨gl, hgl⟩ : ∃ gl, gl = ps[k].2 := ⟨_, rfl⟩
   rw [← hgv] at cf hI
   rw [← hgl] at hI hft
   obtain ⟨ga, gc, rfl, hgl1, hgl2, -⟩ := hI.spec
   have hlen := congrArg List.length hft
   rw [List.length_append] at hlen
   obtain ⟨n1, hn1⟩ : ∃ n1, n1 = ((finsOf ps).take k).flatten.length := ⟨_, rfl⟩
   obtain ⟨n2, hn2⟩ : ∃ n2, n2 = ((finsOf ps).take (k + 1)).flatten.length := ⟨_, rfl⟩
   rw [← hn1] at hlen hb1 ⊢
   rw [← hn2] at hlen hb2
   have hw1 : IntKind.i64.wrap ((n1 : Int) + (gl.length : Int)) = (n1 : Int) + (gl.length : Int) := IntWalk.i64_in _ (by omega)
   have d1 : decide ((n1 : Int) + (gl.length : Int) < 0) = false := decide_eq_false (by omega)
   have d2 : ¬ ((n1 : Int) + (gl.length : Int) < 0) := by omega
   have HLEN := Lib.hid (show ((n2 : Nat) : Int) = (n1 : Int) + (gl.length : Int) by omega)
   have HN2 := Lib.hid hn2
   have hzf := World.block_lt_of_cell? _ _ cf
   simp only at hzf
   clear hcc hI hft hfk hgv hgl hlen hn1 hn2 hE
   go_wp2_with fail
   go_roundw
   case rel => exact ⟨k + 1, by omega, by go_num, by rw [← HN2.out, HLEN.out], HE.out.trans' (by exact xx)⟩
   case measure => simp [intOf]; omega
  ·have hki : ¬ ((k : Int) < (ps.length : Int)) := by omega
   have hke : (finsOf ps).take k = finsOf ps := List.take_of_length_le (by rw [HFL.out]; omega)
   obtain ⟨n1, hn1⟩ : ∃ n1, n1 = ((finsOf ps).take k).flatten.length := ⟨_, rfl⟩
   rw [← hn1] at hb1 ⊢
   clear hn1 hke hE
   go_wp2_with fail
   refine (growNil_any n1 _ hb1).mono ?_
   rintro e W1 ⟨v, rfl, hE1, hown⟩
   have hE2 := HE.out.trans' (Ext.trans' (by exact xx) hE1)
   have HE2 := Lib.hid hE2
   have HO := Lib.hid (hown.base (B' := w.heap.size) (by first | exact HE.out.size | (have := HE.out.size; simp only [World.size_alloc]; omega)))
   obtain ⟨va, vn, vc, rfl⟩ := hown.isSlice
   clear hE1 hown hE2 hb1
   go_wp2_with fail
   go_loopw [6, 27] (fun ov iv W => ∃ k : Nat, k ≤ ps.length ∧ iv = .int .i64 k ∧ OwnI W w.heap.size ov ((finsOf ps).take k).flatten ∧ Ext w W) (fun _ iv _ => ps.length - (intOf iv).toNat)
   case atStart => exact ⟨0, by omega, rfl, (by have := HO.out.ext (by exact xx : Ext W1 _); exact this), HE2.out.trans' (by exact xx)⟩
   case round =>
    obtain ⟨k2, hk2, rfl, hown, hE⟩ := hrel
    obtain ⟨oa, on, oc, rfl⟩ := Owns.isSlice hown
    have HEr := Lib.hid hE
    have HOr := Lib.hid hown
    by_cases hlt2 : k2 < ps.length
    ·have hki2 : (k2 : Int) < (ps.length : Int) := by omega
     obtain ⟨_, _, e, -, -, hcc⟩ := HF.out.spec
     cases e
     rcases hcc with hcc | ⟨fb, fo, rfl, hcc⟩
     ·rw [hcc] at hlt2; simp at hlt2
     have cf := cell_ext hE (hcc k2 hlt2)
     have hI := HF.out.ints ps[k2] (List.getElem_mem hlt2)
     have hft := flat_take (fs := finsOf ps) (k := k2) (by rw [HFL.out]; exact hlt2)
     have hb2 := Nat.le_trans (flat_le (finsOf ps) (k2 + 1)) HL.out
     have hfk : (finsOf ps)[k2]'(by rw [HFL.out]; exact hlt2) = ps[k2].2 := by simp [finsOf]
     rw [hfk] at hft
     obtain ⟨gv, hgv⟩ : ∃ gv, gv = ps[k2].1 := ⟨_, rfl⟩
     obtain ⟨gl, hgl⟩ : ∃ gl, gl = ps[k2].2 := ⟨_, rfl⟩
     rw [← hgv] at cf hI
     rw [← hgl] at hI hft
     rw [hft, List.length_append] at hb2
     obtain ⟨ga, gc, rfl, hgl1, hgl2, -⟩ := hI.spec
     have hgne : gl ≠ [] := by rw [hgl]; exact HNE.out _ (List.getElem_mem hlt2)
     have hsrc : Src wr 1 ga (gl.map iRow) := by
      obtain ⟨_, _, e, -, -, h3⟩ := hI.ext hE
      simp only [Value.slice.injEq] at e
      obtain ⟨rfl, -, rfl⟩ := e
      rcases h3 with h3 | ⟨b', o', e, h3⟩
      ·exact absurd (List.map_eq_nil_iff.1 h3) hgne
      ·exact .inr ⟨b', o', e, h3⟩
     have HSR := Lib.hid hsrc
     have HFT := Lib.hid hft
     have HI := Lib.hid hI
     have hzf := World.block_lt_of_cell? _ _ cf
     simp only at hzf
     have hsz := hE.size
     have hbb := hb2
     clear hcc hfk hgv hgl hft hI hsrc hE hown hgne
     go_wp2_with (at_builtin; refine wpApp rfl (.tmp 31) (.tmp 32) elInt rfl w.heap.size rfl (Owns.ext (by exact xx) HOr.out) ga gc (gl.map iRow) (by rw [List.length_map]; rfl) (by intro r hr; obtain ⟨x, _, rfl⟩ := List.mem_map.1 hr; rfl) (HSR.out.ext (by exact xx)) (by intro r hr; obtain ⟨x, _, rfl⟩ := List.mem_map.1 hr; simp [iRow, Value.oneCell']) (by rw [List.length_map, List.length_map]; omega) (by omega) ?_)
     intro v' W2 hown2 hk2
     obtain ⟨va, vn, vc, rfl⟩ := hown2.isSlice
     have HO2 : Hid (OwnI W2 w.heap.size (.slice va vn vc) ((finsOf ps).take (k2 + 1)).flatten) := Lib.hid (by unfold OwnI; rw [HFT.out]; simpa using hown2)
     have HE3 : Hid (Ext w W2) := Lib.hid (Below.trans HEr.out (Owns.keptBelow HOr.out hsz hk2))
     clear hown2 hk2
     go_wp2_with fail
     go_roundw
     case rel => exact ⟨k2 + 1, by omega, by go_num, HO2.out.ext (by exact xx), HE3.out.trans' (by exact xx)⟩
     case measure => simp [intOf]; omega
    ·have hki2 : ¬ ((k2 : Int) < (ps.length : Int)) := by omega
     have hke2 : (finsOf ps).take k2 = finsOf ps := List.take_of_length_le (by rw [HFL.out]; omega)
     rw [hke2] at hown
     have HO3 := Lib.hid hown
     clear hown hke2 hE HOr
     go_wp2_with fail
     go_ret
     exact ⟨_, rfl, HEr.out, HO3.out⟩
end Go.Proofs.Ytphajlldghcnnaa
namespace Go.Proofs.Ytphajlldghcnnaa
open Go.RowKit Go.Shelf
theorem IsFin.take {W : World} {fa : Option Addr} {n c : Nat} {ps : List (Value × List Int)} (h : IsFin W (.slice fa n c) ps) (k : Nat) (hk : k ≤ ps.length) : IsFin W (.slice fa k c) (ps.take k) := by
 obtain ⟨sa, cap, e, h2, h3, h4⟩ := h.rows
 simp only [Value.slice.injEq] at e
 obtain ⟨rfl, -, rfl⟩ := e
 rw [List.length_map] at h2
 refine ⟨⟨fa, c, by rw [List.length_map, List.length_take, Nat.min_eq_left hk], by rw [List.length_map, List.length_take, Nat.min_eq_left hk]; omega, h3, ?_⟩, fun x hx => h.ints x (List.mem_of_mem_take hx)⟩
 rcases h4 with h4 | ⟨b, off, rfl, h4⟩
 ·exact .inl (by rw [List.map_take, h4]; simp)
 ·exact .inr ⟨b, off, rfl, by rw [List.map_take]; exact h4.take k⟩
theorem finsOf_take (ps : List (Value × List Int)) (k : Nat) : finsOf (ps.take k) = (finsOf ps).take k := by unfold finsOf; rw [List.map_take]
def firstsP (fs : List (List Int)) (n : Nat) : List Int := sortL (fs.take n).flatten
set_option maxRecDepth 100000 in
set_option maxHeartbeats 1000000 in
theorem firsts_any (ps : List (Value × List Int)) (fa : Option Addr) (fcap n : Nat) (w : World) (hf : IsFin w (.slice fa ps.length fcap) ps) (hn : n ≤ ps.length) (hl : (finsOf ps).flatten.length ≤ 1000) (hne : ∀ x ∈ ps, x.2 ≠ []) (h0 : 0 < ((finsOf ps).take n).flatten.length) :
  Calls Try.prog 95 #[.slice fa ps.length fcap, .int .i64 n] w fun e w' => ∃ g cp, e = .returned (.slice (some ⟨g, 0, none⟩) (firstsP (finsOf ps) n).length cp) ∧ Ext w w' ∧ w.heap.size ≤ g ∧ (firstsP (finsOf ps) n).length ≤ cp ∧ cp ≤ 9223372036854775807 ∧ NumB w' g (firstsP (finsOf ps) n).length (gt (firstsP (finsOf ps) n)) := by
 obtain ⟨_, _, e, hf1, hf2, -⟩ := hf.spec
 cases e
 have HF := Lib.hid (hf.take n hn)
 have HNE := Lib.hid (fun x hx => hne x (List.mem_of_mem_take hx) : ∀ x ∈ ps.take n, x.2 ≠ [])
 have hni : (n : Int) ≤ (ps.length : Int) := by omega
 have hlt : (finsOf (ps.take n)).flatten.length ≤ 1000 := by rw [finsOf_take]; exact Nat.le_trans (flat_le _ _) hl
 have hnc : n ≤ fcap := by omega
 obtain ⟨L, hL⟩ : ∃ L, L = (finsOf (ps.take n)).flatten := ⟨_, rfl⟩
 have HL : Hid (firstsP (finsOf ps) n = sortL L) := Lib.hid (by unfold firstsP; rw [hL, finsOf_take])
 rw [← finsOf_take, ← hL] at h0
 have HLL := Lib.hid hL
 have HLT := Lib.hid hlt
 obtain ⟨X, hX⟩ : ∃ X, X = firstsP (finsOf ps) n := ⟨_, rfl⟩
 rw [← hX]
 have HX := Lib.hid (hX.trans HL.out)
 have HL3 : L.length ≤ 1000 := by rw [hL]; exact hlt
 clear hf hne hL hl hlt hX HL
 go_enter Try.func95, Try.ntmps95
 go_wp2_with fail
 refine (concat_any (ps.take n) (.slice fa n fcap) _ (HF.out.ext (by exact xx)) HLT.out HNE.out).mono ?_
 rintro e W1 ⟨v, rfl, hE1, hown⟩
 rw [← HLL.out] at hown
 obtain ⟨g, lc, rfl, hg1, hg2, hgB, hN⟩ := Owns.cellsN hown h0
 have HE1 := Lib.hid hE1
 have HN := Lib.hid hN
 clear hown hE1 hN
 go_wp2_with fail
 refine (sortI_any g lc L _ (HN.out.of_heap rfl) (by omega)).mono ?_
 rintro e W2 ⟨rfl, hk2, hn2⟩
 have HE2 := Lib.hid (ext_kept (HE1.out.trans' (by exact xx)) hk2 (by exact hgB))
 have HN2 := Lib.hid hn2
 clear hk2 hn2
 go_wp2_with fail
 go_ret
 have hXl : X.length = L.length := by rw [HX.out, sortL_len]
 exact ⟨g, lc, by rw [hXl]; rfl, HE2.out, hgB, by rw [hXl]; exact hg1, hg2, by rw [hXl, HX.out]; exact HN2.out⟩
def pairP (b : Bk) (fs : List (List Int)) (a c : Int) : Bool :=
 if a = c ∨ (b.kd = 3 ∧ c < a) then false
 else if 1 < (fs.headD []).length then true
 else if b.kd = 2 then (fs.headD []).contains a
 else (fs.headD []).contains a || (fs.headD []).contains c
set_option maxRecDepth 100000 in
set_option maxHeartbeats 2000000 in
theorem pair_any (b : Bk) (ps : List (Value × List Int)) (fv : Value) (a c : Int) (p : Nat) (w : World) (hk : w.cell? ⟨p, 0, none⟩ = some (.int .i64 b.kd)) (hf : IsFin w fv ps) (h0 : 0 < ps.length) :
  Calls Try.prog 96 #[.pointer (some ⟨p, 0, none⟩), fv, .int .i64 a, .int .i64 c] w fun e w' => e = .returned (.bool (pairP b (finsOf ps) a c)) ∧ Ext w w' := by
 obtain ⟨fa, fcap, rfl, hf1, hf2, hcc⟩ := hf.spec
 rcases hcc with hcc | ⟨fb, fo, rfl, hcc⟩
 ·rw [hcc] at h0; simp at h0
 have cf := hcc 0 h0
 rw [Nat.add_zero] at cf
 have hI := hf.ints ps[0] (List.getElem_mem h0)
 obtain ⟨gv, hgv⟩ : ∃ gv, gv = ps[0].1 := ⟨_, rfl⟩
 obtain ⟨gl, hgl⟩ : ∃ gl, gl = ps[0].2 := ⟨_, rfl⟩
 rw [← hgv] at cf hI
 rw [← hgl] at hI
 obtain ⟨ga, gc, rfl, hgl1, hgl2, -⟩ := hI.spec
 have hhd : (finsOf ps).headD [] = gl := by
  rw [hgl]
  cases ps with
  | nil => simp at h0
  | cons x l => rfl
 obtain ⟨A, hA⟩ : ∃ A, A = gl.contains a := ⟨_, rfl⟩
 obtain ⟨C, hC⟩ : ∃ C, C = gl.contains c := ⟨_, rfl⟩
 have ca := fun W h => contains_any gl a (.slice ga gl.length gc) W h
 have cc := fun W h => contains_any gl c (.slice ga gl.length gc) W h
 rw [← hA] at ca
 rw [← hC] at cc
 have CA := Lib.hid ca
 have CC := Lib.hid cc
 have HI := Lib.hid hI
 have HP : Hid (pairP b (finsOf ps) a c = if a = c ∨ (b.kd = 3 ∧ c < a) then false else if 1 < gl.length then true else if b.kd = 2 then A else A || C) := Lib.hid (by unfold pairP; rw [hhd, ← hA, ← hC])
 obtain ⟨R, hR⟩ : ∃ R, R = pairP b (finsOf ps) a c := ⟨_, rfl⟩
 rw [← hR]
 have HR := Lib.hid (hR.trans HP.out)
 have hz := World.block_lt_of_cell? _ _ hk
 have hzf := World.block_lt_of_cell? _ _ cf
 simp only at hz hzf
 have h0i : (0 : Int) < (ps.length : Int) := by omega
 have hn0 : ¬ ps = [] := fun h => by rw [h] at h0; simp at h0
 clear hf hcc hgv hgl hI hhd hA hC ca cc HP hR
 go_enter Try.func96, Try.ntmps96
 go_upto_region 1 with (fail)
 refine wp_region_rove (w.heap.size) (Nat.le_refl _)
  [sqV (.slice (some ⟨fb, fo, none⟩) ps.length fcap), sqV (.pointer (some ⟨fb, fo, none⟩)), sqV (.slice ga gl.length gc), sqV (.int .i64 a), sqV (.bool A), sqV (.slice (some ⟨fb, fo, none⟩) ps.length fcap), sqV (.pointer (some ⟨fb, fo, none⟩)), sqV (.slice ga gl.length gc), sqV (.int .i64 c), sqV (.bool C), sqV (.bool A), sqV (.bool C)]
  [true, true, true, true, true, true, true, true, true, true, true, true] [false, false, false, false, false, false, false, false, false, false, false, false] [true, true, true, true, true, true, true, true, true, true, true, true] [true, true, true, true, true, true, true, true, true, true, true, true]
  (by kernel_rfl) (by kernel_rfl) (by decide +kernel) (by decide +kernel) (by decide +kernel) rfl ⟨rfl, rfl⟩ ⟨?s0, ?s1, ?s2, ?s3, ?s4, ?s5, ?s6, ?s7, ?s8, ?s9, ?s10, ?s11, trivial⟩ [some 11, some 12, some 13, some 14, some 15, some 16, some 17, some 18, some 19, some 20, some 9, some 10] rfl rfl ?send
 case s0 =>
  intro val ρ W hE hz hd hA hx
  have o0 : ρ (.tmp 1) = .slice (some ⟨fb, fo, none⟩) ps.length fcap := hA.old 1 (by decide)
  clear hd
  exact runq_val (W' := W) (by simp [execOp, o0, go_sem]) (Below.refl _ _) rfl
 case s1 =>
  intro val ρ W hE hz hd hA hx
  have d0 : ρ (.tmp 11) = .slice (some ⟨fb, fo, none⟩) ps.length fcap := (hA.dep 0 (by decide) 11 rfl).trans (hd 0 (by decide))
  clear hd
  exact runq_val (W' := W) (by simp [execOp, hA.const, d0, hn0, go_sem]) (Below.refl _ _) rfl
 case s2 =>
  intro val ρ W hE hz hd hA hx
  have d1 : ρ (.tmp 12) = .pointer (some ⟨fb, fo, none⟩) := (hA.dep 1 (by decide) 12 rfl).trans (hd 1 (by decide))
  have f_cf := cell_below hE (by simp only; omega) cf
  clear hd
  exact runq_val (W' := W) (by simp [execOp, d1, f_cf, go_sem]) (Below.refl _ _) rfl
 case s3 =>
  intro val ρ W hE hz hd hA hx
  have o0 : ρ (.tmp 2) = .int .i64 a := hA.old 2 (by decide)
  clear hd
  exact runq_val (W' := W) (by simp [execOp, o0, go_sem]) (Below.refl _ _) rfl
 case s4 =>
  intro val ρ W hE hz hd hA hx
  have d2 : ρ (.tmp 13) = .slice ga gl.length gc := (hA.dep 2 (by decide) 13 rfl).trans (hd 2 (by decide))
  have d3 : ρ (.tmp 14) = .int .i64 a := (hA.dep 3 (by decide) 14 rfl).trans (hd 3 (by decide))
  clear hd
  refine runq_call 83 _ _ rfl #[.slice ga gl.length gc, .int .i64 a] (hA.func _) (by simp [d2, d3]) (fun args W => Try.call83 args W) ((CA.out W (HI.out.ext hE)).mono ?_)
  rintro e w' ⟨rfl, hb⟩
  exact ⟨_, rfl, hb, rfl⟩
 case s5 =>
  intro val ρ W hE hz hd hA hx
  have o0 : ρ (.tmp 1) = .slice (some ⟨fb, fo, none⟩) ps.length fcap := hA.old 1 (by decide)
  clear hd
  exact runq_val (W' := W) (by simp [execOp, o0, go_sem]) (Below.refl _ _) rfl
 case s6 =>
  intro val ρ W hE hz hd hA hx
  have d5 : ρ (.tmp 16) = .slice (some ⟨fb, fo, none⟩) ps.length fcap := (hA.dep 5 (by decide) 16 rfl).trans (hd 5 (by decide))
  clear hd
  exact runq_val (W' := W) (by simp [execOp, hA.const, d5, hn0, go_sem]) (Below.refl _ _) rfl
 case s7 =>
  intro val ρ W hE hz hd hA hx
  have d6 : ρ (.tmp 17) = .pointer (some ⟨fb, fo, none⟩) := (hA.dep 6 (by decide) 17 rfl).trans (hd 6 (by decide))
  have f_cf := cell_below hE (by simp only; omega) cf
  clear hd
  exact runq_val (W' := W) (by simp [execOp, d6, f_cf, go_sem]) (Below.refl _ _) rfl
 case s8 =>
  intro val ρ W hE hz hd hA hx
  have o0 : ρ (.tmp 3) = .int .i64 c := hA.old 3 (by decide)
  clear hd
  exact runq_val (W' := W) (by simp [execOp, o0, go_sem]) (Below.refl _ _) rfl
 case s9 =>
  intro val ρ W hE hz hd hA hx
  have d7 : ρ (.tmp 18) = .slice ga gl.length gc := (hA.dep 7 (by decide) 18 rfl).trans (hd 7 (by decide))
  have d8 : ρ (.tmp 19) = .int .i64 c := (hA.dep 8 (by decide) 19 rfl).trans (hd 8 (by decide))
  clear hd
  refine runq_call 83 _ _ rfl #[.slice ga gl.length gc, .int .i64 c] (hA.func _) (by simp [d7, d8]) (fun args W => Try.call83 args W) ((CC.out W (HI.out.ext hE)).mono ?_)
  rintro e w' ⟨rfl, hb⟩
  exact ⟨_, rfl, hb, rfl⟩
 case s10 =>
  intro val ρ W hE hz hd hA hx
  have d4 : ρ (.tmp 15) = .bool A := (hA.dep 4 (by decide) 15 rfl).trans (hd 4 (by decide))
  clear hd
  exact runq_val (W' := W) (by simp [execOp, d4, go_sem]) (Below.refl _ _) rfl
 case s11 =>
  intro val ρ W hE hz hd hA hx
  have d9 : ρ (.tmp 20) = .bool C := (hA.dep 9 (by decide) 20 rfl).trans (hd 9 (by decide))
  clear hd
  exact runq_val (W' := W) (by simp [execOp, d9, go_sem]) (Below.refl _ _) rfl
 case send =>
  intro val WW hE hzz hv
  obtain ⟨-, -, -, -, -, -, -, -, -, -, q10, q11, -⟩ := hv
  have q10' : val 10 = .bool A := q10
  have q11' : val 11 = .bool C := q11
  simp only [putD, q10', q11']
  go_frame
  have hEW : Ext w WW := hE
  have k1 := cell_ext hEW hk
  have c1 := cell_ext hEW cf
  have hz1 := World.block_lt_of_cell? _ _ k1
  have hzf1 := World.block_lt_of_cell? _ _ c1
  simp only at hz1 hzf1
  have HE := Lib.hid hEW
  clear q10 q10' q11 q11' hE hzz hEW hk cf hz hzf
  by_cases h1 : a = c
  ·have e1 : (a == c) = true := by simpa using h1
   have HH := Lib.hid (show R = false by rw [HR.out, if_pos (.inl h1)])
   clear h1
   go_wp2_with fail
   go_ret
   exact ⟨ret_bool HH.out.symm, HE.out⟩
  have e1 : (a == c) = false := by simpa using h1
  by_cases h2 : b.kd = 3
  ·rw [h2] at k1
   by_cases h3 : c < a
   ·have HH := Lib.hid (show R = false by rw [HR.out, if_pos (.inr ⟨h2, h3⟩)])
    have d3 : decide (c < a) = true := decide_eq_true h3
    clear h1 h2
    go_wp2_with fail
    go_ret
    exact ⟨ret_bool HH.out.symm, HE.out⟩
   ·have hn : ¬ (a = c ∨ (b.kd = 3 ∧ c < a)) := fun h => h.elim h1 fun h => h3 h.2
    have HH := Lib.hid (show R = if 1 < gl.length then true else A || C by rw [HR.out, if_neg hn, if_neg (show ¬ b.kd = 2 by omega)])
    have d3 : decide (c < a) = false := decide_eq_false h3
    clear h1 h2 hn
    by_cases h4 : 1 < gl.length
    ·have d4 : decide ((1 : Int) < (gl.length : Int)) = true := decide_eq_true (by omega)
     have d5 : (1 : Int) < (gl.length : Int) := by omega
     have HH2 := Lib.hid (HH.out.trans (if_pos h4))
     clear h4
     go_wp2_with fail
     go_ret
     exact ⟨ret_bool HH2.out.symm, HE.out⟩
    ·have d4 : decide ((1 : Int) < (gl.length : Int)) = false := decide_eq_false (by omega)
     have d5 : ¬ ((1 : Int) < (gl.length : Int)) := by omega
     have HH2 := Lib.hid (HH.out.trans (if_neg h4))
     clear h4
     cases A <;>
     ·go_wp2_with fail
      go_ret
      exact ⟨ret_bool (by rw [HH2.out]; rfl), HE.out⟩
  ·have e2 : (b.kd == 3) = false := by simpa using h2
   have hn : ¬ (a = c ∨ (b.kd = 3 ∧ c < a)) := fun h => h.elim h1 fun h => h2 h.1
   have HH := Lib.hid (show R = if 1 < gl.length then true else if b.kd = 2 then A else A || C by rw [HR.out, if_neg hn])
   clear h1 hn
   by_cases h4 : 1 < gl.length
   ·have d4 : decide ((1 : Int) < (gl.length : Int)) = true := decide_eq_true (by omega)
    have d5 : (1 : Int) < (gl.length : Int) := by omega
    have HH2 := Lib.hid (HH.out.trans (if_pos h4))
    clear h4
    go_wp2_with fail
    go_ret
    exact ⟨ret_bool HH2.out.symm, HE.out⟩
   ·have d4 : decide ((1 : Int) < (gl.length : Int)) = false := decide_eq_false (by omega)
    have d5 : ¬ ((1 : Int) < (gl.length : Int)) := by omega
    have HH2 := Lib.hid (HH.out.trans (if_neg h4))
    clear h4
    by_cases h5 : b.kd = 2
    ·have e5 : (b.kd == 2) = true := by simpa using h5
     have HH3 := Lib.hid (HH2.out.trans (if_pos h5))
     clear h5
     go_wp2_with fail
     go_ret
     exact ⟨ret_bool HH3.out.symm, HE.out⟩
    ·have e5 : (b.kd == 2) = false := by simpa using h5
     have HH3 := Lib.hid (HH2.out.trans (if_neg h5))
     clear h5
     cases A <;>
     ·go_wp2_with fail
      go_ret
      exact ⟨ret_bool (by rw [HH3.out]; rfl), HE.out⟩
end Go.Proofs.Ytphajlldghcnnaa
namespace Go.Proofs.Ytphajlldghcnnaa
open Go.RowKit
section
variable {P : Program} {F : Fence} {n : Nat} {b : Frame} {a : Act} {k : List Item} {cs : List Frame} {w : World} {Q : Exit → Act → World → Prop}
theorem stepR_scope {c : Code} : step P (lone (b.atR a (.code (.scope c) :: k)) cs w) = .next (lone (b.atR a (.code c :: .inScope c :: k)) cs w) :=
 step_lone_go (by simp [stepG, stepG.exec, Frame.atR])
theorem stepR_inScope {c : Code} : step P (lone (b.atR a (.inScope c :: k)) cs w) = .next (lone (b.atR a k) cs w) :=
 step_lone_go (by simp [stepG, stepG.exec, Frame.atR])
theorem wpIn_scope {c : Code} (h : c.wpIn F n P (Exit.noGoto Q) a w) : (Code.scope c).wpIn F n P Q a w := by
 intro b k cs hro hb hr
 have h0 : (lone (b.atR a (.code (.scope c) :: k)) cs w).fenced P F := fenced_calm hb hr rfl
 obtain ⟨e, a₁, w₁, hq, harr⟩ := h b (.inScope c :: k) cs hro hb hr
 cases e with
 | normal => exact ⟨.normal, a₁, w₁, hq, .head h0 stepR_scope (StepsIn.trans harr (.one (fenced_calm hb hr rfl) stepR_inScope))⟩
 | exit id =>
  have hx : exitTo id (.inScope c :: k) = exitTo id k := by simp [exitTo]
  exact ⟨.exit id, a₁, w₁, hq, fun k' hk => .head h0 stepR_scope (harr.1 k' (by rw [hx]; exact hk)),
   fun hr' hk => let ⟨k₁, h1, h2⟩ := harr.2 hr' (by rw [hx]; exact hk); ⟨k₁, h1, .head h0 stepR_scope h2⟩⟩
 | goto l => exact hq.elim
 | ret => exact ⟨_, a₁, w₁, hq, .of_steps (.one h0 stepR_scope) harr⟩
 | panic ch => exact ⟨_, a₁, w₁, hq, .of_steps (.one h0 stepR_scope) harr⟩
 | outgrown => exact ⟨_, a₁, w₁, hq, .of_steps (.one h0 stepR_scope) harr⟩
theorem wpIn_label {l : Nat} (h : Q .normal a w) : (Code.label l).wpIn F n P Q a w :=
 fun _ _ _ _ hb hr => ⟨.normal, a, w, h, .one (fenced_calm hb hr rfl) stepR_label⟩
end
end Go.Proofs.Ytphajlldghcnnaa
namespace Go.Proofs.Ytphajlldghcnnaa
open Go.RowKit Go.Shelf
attribute [local go_sem] Oper.semAt_some
/-- as many groups as are asked for -/
def grp (b : Bk) (fs : List (List Int)) : Nat := if b.kd ≠ 0 ∧ (fs.headD []).length = 1 then 2 else 1
def winsAt (b : Bk) (fs : List (List Int)) (l : List Int) (a : Int) : List Spt := if single b = true then [(a, -1)] else (l.filter (pairP b fs a)).map fun c => (a, c)
def winsP (b : Bk) (fs : List (List Int)) : List Spt := (firstsP fs (grp b fs)).flatMap (winsAt b fs (firstsP fs (grp b fs)))
set_option maxRecDepth 100000 in
set_option maxHeartbeats 1000000 in
theorem winners_any (p : Nat) (fa : Option Addr) (n c : Nat) (w : World) :
  Calls Try.prog 68 #[.pointer (some ⟨p, 0, none⟩), .slice fa n c] w fun e w' => e = .returned (.func (.func 94) #[] #[.pointer (some ⟨w.heap.size, 0, none⟩), .pointer (some ⟨w.heap.size + 1, 0, none⟩)]) ∧
   Ext w w' ∧ w'.cell? ⟨w.heap.size, 0, none⟩ = some (.pointer (some ⟨p, 0, none⟩)) ∧ w'.cell? ⟨w.heap.size + 1, 0, none⟩ = some (.slice fa n c) ∧ w'.heap.size = w.heap.size + 2 := by
 go_enter Try.func68, Try.ntmps68
 go_wp2
 go_ret
 exact ⟨rfl, by exact xx, by simp [go_sem], by simp [go_sem], by simp⟩
theorem flatMap_take {α β : Type} (f : α → List β) {l : List α} {k : Nat} (h : k < l.length) : (l.take (k + 1)).flatMap f = (l.take k).flatMap f ++ f l[k] := by
 rw [List.take_add_one, List.getElem?_eq_getElem h, List.flatMap_append]
 simp
theorem flatMap_split {α β : Type} (f : α → List β) {l : List α} {k : Nat} (h : k < l.length) : l.flatMap f = (l.take k).flatMap f ++ (f l[k] ++ (l.drop (k + 1)).flatMap f) := by
 rw [← List.append_assoc, ← flatMap_take f h, ← List.flatMap_append, List.take_append_drop]
theorem pairs_take {q : Int → Bool} {a : Int} {l : List Int} {j : Nat} (h : j < l.length) : (((l.take (j + 1)).filter q).map fun c => (a, c)) = (((l.take j).filter q).map fun c => (a, c)) ++ if q (gt l j) then [(a, gt l j)] else [] := by
 rw [List.take_add_one, List.getElem?_eq_getElem h, List.filter_append, List.map_append, ← gt_get h]
 congr 1
 cases hq : q l[j] <;> simp [hq]
theorem pairs_split {q : Int → Bool} {a : Int} {l : List Int} {j : Nat} (h : j < l.length) (hq : q (gt l j) = true) : ((l.filter q).map fun c => (a, c)) = (((l.take j).filter q).map fun c => (a, c)) ++ (a, gt l j) :: (((l.drop (j + 1)).filter q).map fun c => (a, c)) := by
 have e : l = l.take (j + 1) ++ l.drop (j + 1) := (List.take_append_drop _ _).symm
 conv => lhs; rw [e]
 rw [List.filter_append, List.map_append, pairs_take h, if_pos hq, List.append_assoc]; rfl
/-- what the iterator reads -/
structure WinM (W : World) (bt bf p : Nat) (b : Bk) (ba : Option Addr) (bcap : Nat) (sa : Option Addr) (scap : Nat) (fa : Option Addr) (fcap : Nat) (ps : List (Value × List Int)) : Prop where
 ct : W.cell? ⟨bt, 0, none⟩ = some (.pointer (some ⟨p, 0, none⟩))
 cf : W.cell? ⟨bf, 0, none⟩ = some (.slice fa ps.length fcap)
 bk : BookAt W p b ba bcap sa scap
 fin : IsFin W (.slice fa ps.length fcap) ps
/-- the groups of a finish, as far as what wins is asked -/
structure FinOk (b : Bk) (ps : List (Value × List Int)) : Prop where
 ne : ∀ x ∈ ps, x.2 ≠ []
 le : (finsOf ps).flatten.length ≤ 1000
 one : 0 < ps.length
 two : grp b (finsOf ps) ≤ ps.length
theorem FinOk.pos {b : Bk} {ps : List (Value × List Int)} (h : FinOk b ps) {n : Nat} (hn : 0 < n) : 0 < ((finsOf ps).take n).flatten.length := by
 have h1 := h.one
 match ps, h with
 | [], _ => simp at h1
 | x :: l, h =>
  obtain ⟨m, rfl⟩ : ∃ m, n = m + 1 := ⟨n - 1, by omega⟩
  have := List.length_pos_iff.2 (h.ne x (by simp))
  simp [finsOf]; omega
set_option maxRecDepth 100000 in
set_option maxHeartbeats 4000000 in
theorem winners_iter (b : Bk) (ba sa fa : Option Addr) (bcap scap fcap bt bf p : Nat) (ps : List (Value × List Int)) (R : Nat → Prop) (w0 : World) (_ : ∀ k, R k → k < w0.heap.size)
  (hM : ∀ W, Kept R w0 W → WinM W bt bf p b ba bcap sa scap fa fcap ps) (hok : FinOk b ps) :
  Iter Try.prog 94 #[.pointer (some ⟨bt, 0, none⟩), .pointer (some ⟨bf, 0, none⟩)] (fun x : Spt => #[skey x]) R (fun xs => xs = winsP b (finsOf ps)) (fun _ => True) (fun pre x => ∃ rest, winsP b (finsOf ps) = pre ++ x :: rest) w0 := by
 intro n l J Jx W hW hJ hJx hY h0
 have hk0 : Kept R w0 W := (Kept.of_below hW).mono fun k hk _ => trivial
 have HM := Lib.hid hM
 have HOK := Lib.hid hok
 have HJ := Lib.hid hJ
 have HY := Lib.hid hY
 have HK0 := Lib.hid hk0
 have HH0 := Lib.hid h0
 have hs0 := hW.size
 have hm := hM W hk0
 have k0 := hm.bk.c0
 have hct := hm.ct
 have hcf := hm.cf
 obtain ⟨fb, fo, rfl, cg⟩ : ∃ fb fo, fa = some ⟨fb, fo, none⟩ ∧ ∃ ga gl gc, W.cell? ⟨fb, fo, none⟩ = some (.slice ga gl gc) ∧ gl = ((finsOf ps).headD []).length := by
  obtain ⟨_, _, e, -, -, hcc⟩ := hm.fin.spec
  cases e
  have h1 := hok.one
  rcases hcc with hcc | ⟨fb, fo, rfl, hcc⟩
  ·rw [hcc] at h1; simp at h1
  have c0 := hcc 0 h1
  rw [Nat.add_zero] at c0
  obtain ⟨ga, gc, e, -, -, -⟩ := (hm.fin.ints _ (List.getElem_mem h1)).spec
  refine ⟨fb, fo, rfl, ga, _, gc, by rw [c0, e], ?_⟩
  match ps, h1 with
  | x :: l, _ => rfl
 obtain ⟨ga, gl, gc, cg, hgl⟩ := cg
 have hone := hok.one
 have h0i : (0 : Int) < (ps.length : Int) := by omega
 have hn0 : ¬ ps = [] := fun h => by rw [h] at hone; simp at hone
 obtain ⟨G, hG⟩ : ∃ G, G = grp b (finsOf ps) := ⟨_, rfl⟩
 have hg : G = if b.kd ≠ 0 ∧ gl = 1 then 2 else 1 := by rw [hG, hgl]; rfl
 have HGL := Lib.hid hg
 have HGG := Lib.hid hG
 have hzt := World.block_lt_of_cell? _ _ hct
 have hzf := World.block_lt_of_cell? _ _ hcf
 have hzp := World.block_lt_of_cell? _ _ k0
 have hzg := World.block_lt_of_cell? _ _ cg
 simp only at hzt hzf hzp hzg
 refine callsIn_of_wp Try.func94 rfl trivial ?_ rfl
 simp only [Try.ntmps94, List.size_toArray, List.length_cons, List.length_nil, Nat.reduceAdd, Nat.reduceSub, Array.replicate_succ, Array.replicate_zero, List.push_toArray, List.append_toArray, List.nil_append, List.cons_append]
 clear hM hok hJ hJx hY hk0 h0 hW hm hg hG hgl
 refine wpIn_scope ?_
 by_cases hk : b.kd = 0
 ·rw [hk] at k0
  have HGE := Lib.hid (show G = 1 by rw [HGL.out, if_neg (fun h => h.1 hk)])
  clear hk
  gi_wp2_with fail
  refine ⟨trivial, fun h => (by simp [Fence.wide] at h), (callsIn_wide.2 (firsts_any ps _ fcap 1 W (HM.out W HK0.out).fin (by have := HOK.out.two; rw [← HGG.out, HGE.out] at this; exact this) HOK.out.le HOK.out.ne (HOK.out.pos (by omega)))).mono ?_⟩
  rintro e W1 ⟨g, lc, rfl, hE1, hgB, hlc1, hlc2, hN⟩
  obtain ⟨L, hL⟩ : ∃ L, L = firstsP (finsOf ps) 1 := ⟨_, rfl⟩
  have HWP : Hid (winsP b (finsOf ps) = L.flatMap (winsAt b (finsOf ps) L)) := Lib.hid (by unfold winsP; rw [← HGG.out, HGE.out, ← hL])
  rw [← hL] at hlc1 hN ⊢
  have HN1 := Lib.hid hN
  have HK1 := Lib.hid ((Kept.of_below hE1).mono (T := R) fun k _ _ => trivial : Kept R W W1)
  have HJ1 := Lib.hid (HJ.out [] (fun _ => False) (fun k => k = g) W W1 HH0.out ((Kept.of_below hE1).mono fun k _ _ => trivial) (fun _ h => h.elim) (fun k hk => .inr ⟨by rw [hk]; exact hgB, by rw [hk]; exact hN.lt⟩))
  have hgw : w0.heap.size ≤ g := by omega
  clear hE1 hN hL k0 hct hcf cg hzt hzf hzp hzg
  gi_wp2_with fail
  refine wpIn_label ?_
  gi_wp2_with fail
  gi_loopw [28] (fun iv wr => ∃ k : Nat, k ≤ L.length ∧ iv = .int .i64 k ∧ J (fun k => k = g) ((L.take k).flatMap (winsAt b (finsOf ps) L)) wr ∧ NumB wr g L.length (gt L) ∧ Kept R W wr) (fun iv _ => L.length - (intOf iv).toNat)
  case atStart => exact ⟨0, by omega, rfl, by simpa using HJ1.out, HN1.out, HK1.out⟩
  case round =>
   obtain ⟨k, hk, rfl, hj, hnum, hkp⟩ := hrel
   have HJr := Lib.hid hj
   have HNr := Lib.hid hnum
   have HKr := Lib.hid hkp
   by_cases hlt : k < L.length
   ·have hki : (k : Int) < (L.length : Int) := by omega
    have c0 := hnum.cell k hlt
    have hzg := hnum.lt
    have hm := HM.out wr (HK0.out.trans hkp)
    have hct := hm.ct
    have hzt := World.block_lt_of_cell? _ _ hct
    simp only at hzt
    have hbk := hm.bk
    have k0 := (hbk).c0
    have k1 := (hbk).c1
    have k2 := (hbk).c2
    have k3 := (hbk).c3
    have k4 := (hbk).c4
    have k5 := (hbk).c5
    have k6 := (hbk).c6
    have k7 := (hbk).c7
    have hz := (hbk).lt
    obtain ⟨a, ha⟩ : ∃ a, a = gt L k := ⟨_, rfl⟩
    rw [← ha] at c0
    have HA := Lib.hid ha
    have hsp := flatMap_split (winsAt b (finsOf ps) L) hlt
    have htk := flatMap_take (winsAt b (finsOf ps) L) hlt
    rw [gt_get hlt, ← ha] at hsp htk
    have HSP := Lib.hid hsp
    have HTK := Lib.hid htk
    have hcf := hm.cf
    have hzf := World.block_lt_of_cell? _ _ hcf
    simp only at hzf
    clear hj hnum hkp hbk ha hsp htk hm
    gi_wp2_with fail
    refine ⟨trivial, fun h => (by simp [Fence.wide] at h), (callsIn_wide.2 (single_any b ba sa bcap scap _)).mono ?_⟩
    rintro e W3 ⟨rfl, hE3⟩
    have HJ3 := Lib.hid ((HJ.out _).ext HJr.out hE3)
    have HN3 := Lib.hid (HNr.out.of_heap (hE3.block _ HNr.out.lt))
    have HK3 := Lib.hid (HKr.out.trans ((Kept.of_below hE3).mono (T := R) fun k _ _ => trivial))
    clear hE3 k0 k1 k2 k3 k4 k5 k6 k7 hz c0 hct hcf hzt hzf hzg
    cases hsi : single b
    ·have hwa : winsAt b (finsOf ps) L a = (L.filter (pairP b (finsOf ps) a)).map fun c => (a, c) := by unfold winsAt; rw [if_neg (by rw [hsi]; simp)]
     have HWA := Lib.hid hwa
     clear hsi hwa
     gi_wp2_with fail
     gi_loopw [44] (fun iv wr => ∃ j : Nat, j ≤ L.length ∧ iv = .int .i64 j ∧ J (fun k => k = g) ((L.take k).flatMap (winsAt b (finsOf ps) L) ++ (((L.take j).filter (pairP b (finsOf ps) a)).map fun c => (a, c))) wr ∧ NumB wr g L.length (gt L) ∧ Kept R W wr) (fun iv _ => L.length - (intOf iv).toNat)
     case atStart => exact ⟨0, by omega, rfl, by simpa using HJ3.out, HN3.out, HK3.out⟩
     case round =>
      obtain ⟨j, hjl, rfl, hj, hnum, hkp⟩ := hrel
      have HJi := Lib.hid hj
      have HNi := Lib.hid hnum
      have HKi := Lib.hid hkp
      by_cases hjt : j < L.length
      ·have hji : (j : Int) < (L.length : Int) := by omega
       have c0 := hnum.cell j hjt
       have hzg := hnum.lt
       have hm := HM.out wr (HK0.out.trans hkp)
       have hct := hm.ct
       have hcf := hm.cf
       have k0 := hm.bk.c0
       have hzt := World.block_lt_of_cell? _ _ hct
       have hzf := World.block_lt_of_cell? _ _ hcf
       have hzp := World.block_lt_of_cell? _ _ k0
       simp only at hzt hzf hzp
       have HFi := Lib.hid hm.fin
       obtain ⟨c, hc⟩ : ∃ c, c = gt L j := ⟨_, rfl⟩
       have hpt := pairs_take (q := pairP b (finsOf ps) a) (a := a) hjt
       have hps := pairs_split (q := pairP b (finsOf ps) a) (a := a) hjt
       rw [← hc] at c0 hpt hps
       have HPT := Lib.hid hpt
       have HPS := Lib.hid hps
       clear hj hnum hkp hm hc hpt hps
       gi_wp2_with fail
       refine ⟨trivial, fun h => (by simp [Fence.wide] at h), (callsIn_wide.2 (pair_any b ps _ a c p wr k0 HFi.out hone)).mono ?_⟩
       rintro e W4 ⟨rfl, hE4⟩
       have HJ4 := Lib.hid ((HJ.out _).ext HJi.out hE4)
       have HN4 := Lib.hid (HNi.out.of_heap (hE4.block _ HNi.out.lt))
       have HK4 := Lib.hid (HKi.out.trans ((Kept.of_below hE4).mono (T := R) fun k _ _ => trivial))
       clear hE4 c0 hct hcf k0 hzt hzf hzp hzg HFi
       cases hpr : pairP b (finsOf ps) a c
       ·have hpt := HPT.out
        rw [if_neg (by rw [hpr]; simp), List.append_nil] at hpt
        have HPT2 := Lib.hid hpt
        clear hpr hpt
        gi_wp2_with fail
        go_roundw
        case rel => exact ⟨j + 1, by omega, by go_num, by rw [HPT2.out]; exact HJ4.out, HN4.out, HK4.out⟩
        case measure => simp [intOf]; omega
       ·have hpt := HPT.out
        rw [if_pos hpr] at hpt
        have HPT2 := Lib.hid hpt
        have hnx : ∃ rest, winsP b (finsOf ps) = ((L.take k).flatMap (winsAt b (finsOf ps) L) ++ (((L.take j).filter (pairP b (finsOf ps) a)).map fun c => (a, c))) ++ (a, c) :: rest :=
         ⟨_, by rw [HWP.out, HSP.out, HWA.out, HPS.out hpr, List.append_assoc, List.append_assoc]; rfl⟩
        obtain ⟨fn, tmps, assign, body, hy, hRr⟩ := HY.out (fun k => k = g) _ (a, c) W4 HJ4.out hnx
        simp only [skey] at hy
        clear hpr hpt hnx
        gi_wp2_with fail
        refine ⟨fun h => (by simp [Fence.wide] at h), hRr.mono ?_⟩
        clear hy hRr
        rintro e W5 (⟨rfl, hj5, hk5⟩ | ⟨rfl, hj5⟩)
        ·have HJ5 := Lib.hid hj5
         have HN5 := Lib.hid (HN4.out.of_heap (hk5.same _ HN4.out.lt (.inr rfl)))
         have HK5 := Lib.hid (HK4.out.trans (hk5.mono (T := R) fun _ _ h => .inl h))
         clear hj5 hk5
         gi_wp2_with fail
         go_roundw
         case rel => exact ⟨j + 1, by omega, by go_num, by rw [HPT2.out, ← List.append_assoc]; exact HJ5.out, HN5.out, HK5.out⟩
         case measure => simp [intOf]; omega
        ·have HJ5 := Lib.hid hj5
         clear hj5
         gi_wp2_with fail
         rw [Exit.noGoto_ret]; refine bodyPost_ret (results_none rfl _ _ _) rfl ?_
         exact ⟨⟨_, rfl⟩, .inr ⟨_, _, trivial, HJ5.out⟩⟩
      ·have hji : ¬ ((j : Int) < (L.length : Int)) := by omega
       have hje : j = L.length := by omega
       rw [hje, List.take_length, ← HWA.out, ← HTK.out] at hj
       have HJe := Lib.hid hj
       clear hje hj hnum hkp
       gi_wp2_with fail
       go_roundw
       case rel => exact ⟨k + 1, by omega, by go_num, HJe.out, HNi.out, HKi.out⟩
       case measure => simp [intOf]; omega
    ·have hwa : winsAt b (finsOf ps) L a = [(a, -1)] := by unfold winsAt; rw [if_pos hsi]
     have HTK2 := Lib.hid (HTK.out.trans (by rw [hwa]) : (L.take (k + 1)).flatMap (winsAt b (finsOf ps) L) = (L.take k).flatMap (winsAt b (finsOf ps) L) ++ [(a, -1)])
     have hnx : ∃ rest, winsP b (finsOf ps) = (L.take k).flatMap (winsAt b (finsOf ps) L) ++ (a, -1) :: rest := ⟨_, by rw [HWP.out, HSP.out, hwa]; rfl⟩
     obtain ⟨fn, tmps, assign, body, hy, hRr⟩ := HY.out (fun k => k = g) _ (a, -1) W3 HJ3.out hnx
     simp only [skey] at hy
     clear hsi hwa hnx
     gi_wp2_with fail
     refine ⟨fun h => (by simp [Fence.wide] at h), hRr.mono ?_⟩
     clear hy hRr
     rintro e W5 (⟨rfl, hj5, hk5⟩ | ⟨rfl, hj5⟩)
     ·have HJ5 := Lib.hid hj5
      have HN5 := Lib.hid (HN3.out.of_heap (hk5.same _ HN3.out.lt (.inr rfl)))
      have HK5 := Lib.hid (HK3.out.trans (hk5.mono (T := R) fun _ _ h => .inl h))
      clear hj5 hk5
      gi_wp2_with fail
      go_roundw
      case rel => exact ⟨k + 1, by omega, by go_num, by rw [HTK2.out]; exact HJ5.out, HN5.out, HK5.out⟩
      case measure => simp [intOf]; omega
     ·have HJ5 := Lib.hid hj5
      clear hj5
      gi_wp2_with fail
      rw [Exit.noGoto_ret]; refine bodyPost_ret (results_none rfl _ _ _) rfl ?_
      exact ⟨⟨_, rfl⟩, .inr ⟨_, _, trivial, HJ5.out⟩⟩
   ·have hki : ¬ ((k : Int) < (L.length : Int)) := by omega
    have hke : k = L.length := by omega
    rw [hke, List.take_length, ← HWP.out] at hj
    have HJe := Lib.hid hj
    clear hke hj hnum hkp
    gi_wp2_with fail
    go_end0
    exact ⟨⟨_, rfl⟩, .inl ⟨_, HJe.out⟩⟩
 ·have e1 : (b.kd != 0) = true := by simpa using hk
  by_cases hg1 : gl = 1
  ·have HGE := Lib.hid (show G = 2 by rw [HGL.out, if_pos ⟨hk, hg1⟩])
   have e2 : ((gl : Int) == 1) = true := by rw [hg1]; rfl
   have e3 : decide (gl = 1) = true := decide_eq_true hg1
   clear hk
   gi_wp2_with fail
   refine ⟨trivial, fun h => (by simp [Fence.wide] at h), (callsIn_wide.2 (firsts_any ps _ fcap 2 W (HM.out W HK0.out).fin (by have := HOK.out.two; rw [← HGG.out, HGE.out] at this; exact this) HOK.out.le HOK.out.ne (HOK.out.pos (by omega)))).mono ?_⟩
   rintro e W1 ⟨g, lc, rfl, hE1, hgB, hlc1, hlc2, hN⟩
   obtain ⟨L, hL⟩ : ∃ L, L = firstsP (finsOf ps) 2 := ⟨_, rfl⟩
   have HWP : Hid (winsP b (finsOf ps) = L.flatMap (winsAt b (finsOf ps) L)) := Lib.hid (by unfold winsP; rw [← HGG.out, HGE.out, ← hL])
   rw [← hL] at hlc1 hN ⊢
   have HN1 := Lib.hid hN
   have HK1 := Lib.hid ((Kept.of_below hE1).mono (T := R) fun k _ _ => trivial : Kept R W W1)
   have HJ1 := Lib.hid (HJ.out [] (fun _ => False) (fun k => k = g) W W1 HH0.out ((Kept.of_below hE1).mono fun k _ _ => trivial) (fun _ h => h.elim) (fun k hk => .inr ⟨by rw [hk]; exact hgB, by rw [hk]; exact hN.lt⟩))
   have hgw : w0.heap.size ≤ g := by omega
   clear hE1 hN hL k0 hct hcf cg hzt hzf hzp hzg
   gi_wp2_with fail
   refine wpIn_label ?_
   gi_wp2_with fail
   gi_loopw [28] (fun iv wr => ∃ k : Nat, k ≤ L.length ∧ iv = .int .i64 k ∧ J (fun k => k = g) ((L.take k).flatMap (winsAt b (finsOf ps) L)) wr ∧ NumB wr g L.length (gt L) ∧ Kept R W wr) (fun iv _ => L.length - (intOf iv).toNat)
   case atStart => exact ⟨0, by omega, rfl, by simpa using HJ1.out, HN1.out, HK1.out⟩
   case round =>
    obtain ⟨k, hk, rfl, hj, hnum, hkp⟩ := hrel
    have HJr := Lib.hid hj
    have HNr := Lib.hid hnum
    have HKr := Lib.hid hkp
    by_cases hlt : k < L.length
    ·have hki : (k : Int) < (L.length : Int) := by omega
     have c0 := hnum.cell k hlt
     have hzg := hnum.lt
     have hm := HM.out wr (HK0.out.trans hkp)
     have hct := hm.ct
     have hzt := World.block_lt_of_cell? _ _ hct
     simp only at hzt
     have hbk := hm.bk
     have k0 := (hbk).c0
     have k1 := (hbk).c1
     have k2 := (hbk).c2
     have k3 := (hbk).c3
     have k4 := (hbk).c4
     have k5 := (hbk).c5
     have k6 := (hbk).c6
     have k7 := (hbk).c7
     have hz := (hbk).lt
     obtain ⟨a, ha⟩ : ∃ a, a = gt L k := ⟨_, rfl⟩
     rw [← ha] at c0
     have HA := Lib.hid ha
     have hsp := flatMap_split (winsAt b (finsOf ps) L) hlt
     have htk := flatMap_take (winsAt b (finsOf ps) L) hlt
     rw [gt_get hlt, ← ha] at hsp htk
     have HSP := Lib.hid hsp
     have HTK := Lib.hid htk
     have hcf := hm.cf
     have hzf := World.block_lt_of_cell? _ _ hcf
     simp only at hzf
     clear hj hnum hkp hbk ha hsp htk hm
     gi_wp2_with fail
     refine ⟨trivial, fun h => (by simp [Fence.wide] at h), (callsIn_wide.2 (single_any b ba sa bcap scap _)).mono ?_⟩
     rintro e W3 ⟨rfl, hE3⟩
     have HJ3 := Lib.hid ((HJ.out _).ext HJr.out hE3)
     have HN3 := Lib.hid (HNr.out.of_heap (hE3.block _ HNr.out.lt))
     have HK3 := Lib.hid (HKr.out.trans ((Kept.of_below hE3).mono (T := R) fun k _ _ => trivial))
     clear hE3 k0 k1 k2 k3 k4 k5 k6 k7 hz c0 hct hcf hzt hzf hzg
     cases hsi : single b
     ·have hwa : winsAt b (finsOf ps) L a = (L.filter (pairP b (finsOf ps) a)).map fun c => (a, c) := by unfold winsAt; rw [if_neg (by rw [hsi]; simp)]
      have HWA := Lib.hid hwa
      clear hsi hwa
      gi_wp2_with fail
      gi_loopw [44] (fun iv wr => ∃ j : Nat, j ≤ L.length ∧ iv = .int .i64 j ∧ J (fun k => k = g) ((L.take k).flatMap (winsAt b (finsOf ps) L) ++ (((L.take j).filter (pairP b (finsOf ps) a)).map fun c => (a, c))) wr ∧ NumB wr g L.length (gt L) ∧ Kept R W wr) (fun iv _ => L.length - (intOf iv).toNat)
      case atStart => exact ⟨0, by omega, rfl, by simpa using HJ3.out, HN3.out, HK3.out⟩
      case round =>
       obtain ⟨j, hjl, rfl, hj, hnum, hkp⟩ := hrel
       have HJi := Lib.hid hj
       have HNi := Lib.hid hnum
       have HKi := Lib.hid hkp
       by_cases hjt : j < L.length
       ·have hji : (j : Int) < (L.length : Int) := by omega
        have c0 := hnum.cell j hjt
        have hzg := hnum.lt
        have hm := HM.out wr (HK0.out.trans hkp)
        have hct := hm.ct
        have hcf := hm.cf
        have k0 := hm.bk.c0
        have hzt := World.block_lt_of_cell? _ _ hct
        have hzf := World.block_lt_of_cell? _ _ hcf
        have hzp := World.block_lt_of_cell? _ _ k0
        simp only at hzt hzf hzp
        have HFi := Lib.hid hm.fin
        obtain ⟨c, hc⟩ : ∃ c, c = gt L j := ⟨_, rfl⟩
        have hpt := pairs_take (q := pairP b (finsOf ps) a) (a := a) hjt
        have hps := pairs_split (q := pairP b (finsOf ps) a) (a := a) hjt
        rw [← hc] at c0 hpt hps
        have HPT := Lib.hid hpt
        have HPS := Lib.hid hps
        clear hj hnum hkp hm hc hpt hps
        gi_wp2_with fail
        refine ⟨trivial, fun h => (by simp [Fence.wide] at h), (callsIn_wide.2 (pair_any b ps _ a c p wr k0 HFi.out hone)).mono ?_⟩
        rintro e W4 ⟨rfl, hE4⟩
        have HJ4 := Lib.hid ((HJ.out _).ext HJi.out hE4)
        have HN4 := Lib.hid (HNi.out.of_heap (hE4.block _ HNi.out.lt))
        have HK4 := Lib.hid (HKi.out.trans ((Kept.of_below hE4).mono (T := R) fun k _ _ => trivial))
        clear hE4 c0 hct hcf k0 hzt hzf hzp hzg HFi
        cases hpr : pairP b (finsOf ps) a c
        ·have hpt := HPT.out
         rw [if_neg (by rw [hpr]; simp), List.append_nil] at hpt
         have HPT2 := Lib.hid hpt
         clear hpr hpt
         gi_wp2_with fail
         go_roundw
         case rel => exact ⟨j + 1, by omega, by go_num, by rw [HPT2.out]; exact HJ4.out, HN4.out, HK4.out⟩
         case measure => simp [intOf]; omega
        ·have hpt := HPT.out
         rw [if_pos hpr] at hpt
         have HPT2 := Lib.hid hpt
         have hnx : ∃ rest, winsP b (finsOf ps) = ((L.take k).flatMap (winsAt b (finsOf ps) L) ++ (((L.take j).filter (pairP b (finsOf ps) a)).map fun c => (a, c))) ++ (a, c) :: rest :=
          ⟨_, by rw [HWP.out, HSP.out, HWA.out, HPS.out hpr, List.append_assoc, List.append_assoc]; rfl⟩
         obtain ⟨fn, tmps, assign, body, hy, hRr⟩ := HY.out (fun k => k = g) _ (a, c) W4 HJ4.out hnx
         simp only [skey] at hy
         clear hpr hpt hnx
         gi_wp2_with fail
         refine ⟨fun h => (by simp [Fence.wide] at h), hRr.mono ?_⟩
         clear hy hRr
         rintro e W5 (⟨rfl, hj5, hk5⟩ | ⟨rfl, hj5⟩)
         ·have HJ5 := Lib.hid hj5
          have HN5 := Lib.hid (HN4.out.of_heap (hk5.same _ HN4.out.lt (.inr rfl)))
          have HK5 := Lib.hid (HK4.out.trans (hk5.mono (T := R) fun _ _ h => .inl h))
          clear hj5 hk5
          gi_wp2_with fail
          go_roundw
          case rel => exact ⟨j + 1, by omega, by go_num, by rw [HPT2.out, ← List.append_assoc]; exact HJ5.out, HN5.out, HK5.out⟩
          case measure => simp [intOf]; omega
         ·have HJ5 := Lib.hid hj5
          clear hj5
          gi_wp2_with fail
          rw [Exit.noGoto_ret]; refine bodyPost_ret (results_none rfl _ _ _) rfl ?_
          exact ⟨⟨_, rfl⟩, .inr ⟨_, _, trivial, HJ5.out⟩⟩
       ·have hji : ¬ ((j : Int) < (L.length : Int)) := by omega
        have hje : j = L.length := by omega
        rw [hje, List.take_length, ← HWA.out, ← HTK.out] at hj
        have HJe := Lib.hid hj
        clear hje hj hnum hkp
        gi_wp2_with fail
        go_roundw
        case rel => exact ⟨k + 1, by omega, by go_num, HJe.out, HNi.out, HKi.out⟩
        case measure => simp [intOf]; omega
     ·have hwa : winsAt b (finsOf ps) L a = [(a, -1)] := by unfold winsAt; rw [if_pos hsi]
      have HTK2 := Lib.hid (HTK.out.trans (by rw [hwa]) : (L.take (k + 1)).flatMap (winsAt b (finsOf ps) L) = (L.take k).flatMap (winsAt b (finsOf ps) L) ++ [(a, -1)])
      have hnx : ∃ rest, winsP b (finsOf ps) = (L.take k).flatMap (winsAt b (finsOf ps) L) ++ (a, -1) :: rest := ⟨_, by rw [HWP.out, HSP.out, hwa]; rfl⟩
      obtain ⟨fn, tmps, assign, body, hy, hRr⟩ := HY.out (fun k => k = g) _ (a, -1) W3 HJ3.out hnx
      simp only [skey] at hy
      clear hsi hwa hnx
      gi_wp2_with fail
      refine ⟨fun h => (by simp [Fence.wide] at h), hRr.mono ?_⟩
      clear hy hRr
      rintro e W5 (⟨rfl, hj5, hk5⟩ | ⟨rfl, hj5⟩)
      ·have HJ5 := Lib.hid hj5
       have HN5 := Lib.hid (HN3.out.of_heap (hk5.same _ HN3.out.lt (.inr rfl)))
       have HK5 := Lib.hid (HK3.out.trans (hk5.mono (T := R) fun _ _ h => .inl h))
       clear hj5 hk5
       gi_wp2_with fail
       go_roundw
       case rel => exact ⟨k + 1, by omega, by go_num, by rw [HTK2.out]; exact HJ5.out, HN5.out, HK5.out⟩
       case measure => simp [intOf]; omega
      ·have HJ5 := Lib.hid hj5
       clear hj5
       gi_wp2_with fail
       rw [Exit.noGoto_ret]; refine bodyPost_ret (results_none rfl _ _ _) rfl ?_
       exact ⟨⟨_, rfl⟩, .inr ⟨_, _, trivial, HJ5.out⟩⟩
    ·have hki : ¬ ((k : Int) < (L.length : Int)) := by omega
     have hke : k = L.length := by omega
     rw [hke, List.take_length, ← HWP.out] at hj
     have HJe := Lib.hid hj
     clear hke hj hnum hkp
     gi_wp2_with fail
     go_end0
     exact ⟨⟨_, rfl⟩, .inl ⟨_, HJe.out⟩⟩
  ·have HGE := Lib.hid (show G = 1 by rw [HGL.out, if_neg (fun h => hg1 h.2)])
   have e2 : ((gl : Int) == 1) = false := by rw [beq_eq_false_iff_ne]; omega
   have e3 : ¬ ((gl : Int) = 1) := by omega
   clear hk
   gi_wp2_with fail
   refine ⟨trivial, fun h => (by simp [Fence.wide] at h), (callsIn_wide.2 (firsts_any ps _ fcap 1 W (HM.out W HK0.out).fin (by have := HOK.out.two; rw [← HGG.out, HGE.out] at this; exact this) HOK.out.le HOK.out.ne (HOK.out.pos (by omega)))).mono ?_⟩
   rintro e W1 ⟨g, lc, rfl, hE1, hgB, hlc1, hlc2, hN⟩
   obtain ⟨L, hL⟩ : ∃ L, L = firstsP (finsOf ps) 1 := ⟨_, rfl⟩
   have HWP : Hid (winsP b (finsOf ps) = L.flatMap (winsAt b (finsOf ps) L)) := Lib.hid (by unfold winsP; rw [← HGG.out, HGE.out, ← hL])
   rw [← hL] at hlc1 hN ⊢
   have HN1 := Lib.hid hN
   have HK1 := Lib.hid ((Kept.of_below hE1).mono (T := R) fun k _ _ => trivial : Kept R W W1)
   have HJ1 := Lib.hid (HJ.out [] (fun _ => False) (fun k => k = g) W W1 HH0.out ((Kept.of_below hE1).mono fun k _ _ => trivial) (fun _ h => h.elim) (fun k hk => .inr ⟨by rw [hk]; exact hgB, by rw [hk]; exact hN.lt⟩))
   have hgw : w0.heap.size ≤ g := by omega
   clear hE1 hN hL k0 hct hcf cg hzt hzf hzp hzg
   gi_wp2_with fail
   refine wpIn_label ?_
   gi_wp2_with fail
   gi_loopw [28] (fun iv wr => ∃ k : Nat, k ≤ L.length ∧ iv = .int .i64 k ∧ J (fun k => k = g) ((L.take k).flatMap (winsAt b (finsOf ps) L)) wr ∧ NumB wr g L.length (gt L) ∧ Kept R W wr) (fun iv _ => L.length - (intOf iv).toNat)
   case atStart => exact ⟨0, by omega, rfl, by simpa using HJ1.out, HN1.out, HK1.out⟩
   case round =>
    obtain ⟨k, hk, rfl, hj, hnum, hkp⟩ := hrel
    have HJr := Lib.hid hj
    have HNr := Lib.hid hnum
    have HKr := Lib.hid hkp
    by_cases hlt : k < L.length
    ·have hki : (k : Int) < (L.length : Int) := by omega
     have c0 := hnum.cell k hlt
     have hzg := hnum.lt
     have hm := HM.out wr (HK0.out.trans hkp)
     have hct := hm.ct
     have hzt := World.block_lt_of_cell? _ _ hct
     simp only at hzt
     have hbk := hm.bk
     have k0 := (hbk).c0
     have k1 := (hbk).c1
     have k2 := (hbk).c2
     have k3 := (hbk).c3
     have k4 := (hbk).c4
     have k5 := (hbk).c5
     have k6 := (hbk).c6
     have k7 := (hbk).c7
     have hz := (hbk).lt
     obtain ⟨a, ha⟩ : ∃ a, a = gt L k := ⟨_, rfl⟩
     rw [← ha] at c0
     have HA := Lib.hid ha
     have hsp := flatMap_split (winsAt b (finsOf ps) L) hlt
     have htk := flatMap_take (winsAt b (finsOf ps) L) hlt
     rw [gt_get hlt, ← ha] at hsp htk
     have HSP := Lib.hid hsp
     have HTK := Lib.hid htk
     have hcf := hm.cf
     have hzf := World.block_lt_of_cell? _ _ hcf
     simp only at hzf
     clear hj hnum hkp hbk ha hsp htk hm
     gi_wp2_with fail
     refine ⟨trivial, fun h => (by simp [Fence.wide] at h), (callsIn_wide.2 (single_any b ba sa bcap scap _)).mono ?_⟩
     rintro e W3 ⟨rfl, hE3⟩
     have HJ3 := Lib.hid ((HJ.out _).ext HJr.out hE3)
     have HN3 := Lib.hid (HNr.out.of_heap (hE3.block _ HNr.out.lt))
     have HK3 := Lib.hid (HKr.out.trans ((Kept.of_below hE3).mono (T := R) fun k _ _ => trivial))
     clear hE3 k0 k1 k2 k3 k4 k5 k6 k7 hz c0 hct hcf hzt hzf hzg
     cases hsi : single b
     ·have hwa : winsAt b (finsOf ps) L a = (L.filter (pairP b (finsOf ps) a)).map fun c => (a, c) := by unfold winsAt; rw [if_neg (by rw [hsi]; simp)]
      have HWA := Lib.hid hwa
      clear hsi hwa
      gi_wp2_with fail
      gi_loopw [44] (fun iv wr => ∃ j : Nat, j ≤ L.length ∧ iv = .int .i64 j ∧ J (fun k => k = g) ((L.take k).flatMap (winsAt b (finsOf ps) L) ++ (((L.take j).filter (pairP b (finsOf ps) a)).map fun c => (a, c))) wr ∧ NumB wr g L.length (gt L) ∧ Kept R W wr) (fun iv _ => L.length - (intOf iv).toNat)
      case atStart => exact ⟨0, by omega, rfl, by simpa using HJ3.out, HN3.out, HK3.out⟩
      case round =>
       obtain ⟨j, hjl, rfl, hj, hnum, hkp⟩ := hrel
       have HJi := Lib.hid hj
       have HNi := Lib.hid hnum
       have HKi := Lib.hid hkp
       by_cases hjt : j < L.length
       ·have hji : (j : Int) < (L.length : Int) := by omega
        have c0 := hnum.cell j hjt
        have hzg := hnum.lt
        have hm := HM.out wr (HK0.out.trans hkp)
        have hct := hm.ct
        have hcf := hm.cf
        have k0 := hm.bk.c0
        have hzt := World.block_lt_of_cell? _ _ hct
        have hzf := World.block_lt_of_cell? _ _ hcf
        have hzp := World.block_lt_of_cell? _ _ k0
        simp only at hzt hzf hzp
        have HFi := Lib.hid hm.fin
        obtain ⟨c, hc⟩ : ∃ c, c = gt L j := ⟨_, rfl⟩
        have hpt := pairs_take (q := pairP b (finsOf ps) a) (a := a) hjt
        have hps := pairs_split (q := pairP b (finsOf ps) a) (a := a) hjt
        rw [← hc] at c0 hpt hps
        have HPT := Lib.hid hpt
        have HPS := Lib.hid hps
        clear hj hnum hkp hm hc hpt hps
        gi_wp2_with fail
        refine ⟨trivial, fun h => (by simp [Fence.wide] at h), (callsIn_wide.2 (pair_any b ps _ a c p wr k0 HFi.out hone)).mono ?_⟩
        rintro e W4 ⟨rfl, hE4⟩
        have HJ4 := Lib.hid ((HJ.out _).ext HJi.out hE4)
        have HN4 := Lib.hid (HNi.out.of_heap (hE4.block _ HNi.out.lt))
        have HK4 := Lib.hid (HKi.out.trans ((Kept.of_below hE4).mono (T := R) fun k _ _ => trivial))
        clear hE4 c0 hct hcf k0 hzt hzf hzp hzg HFi
        cases hpr : pairP b (finsOf ps) a c
        ·have hpt := HPT.out
         rw [if_neg (by rw [hpr]; simp), List.append_nil] at hpt
         have HPT2 := Lib.hid hpt
         clear hpr hpt
         gi_wp2_with fail
         go_roundw
         case rel => exact ⟨j + 1, by omega, by go_num, by rw [HPT2.out]; exact HJ4.out, HN4.out, HK4.out⟩
         case measure => simp [intOf]; omega
        ·have hpt := HPT.out
         rw [if_pos hpr] at hpt
         have HPT2 := Lib.hid hpt
         have hnx : ∃ rest, winsP b (finsOf ps) = ((L.take k).flatMap (winsAt b (finsOf ps) L) ++ (((L.take j).filter (pairP b (finsOf ps) a)).map fun c => (a, c))) ++ (a, c) :: rest :=
          ⟨_, by rw [HWP.out, HSP.out, HWA.out, HPS.out hpr, List.append_assoc, List.append_assoc]; rfl⟩
         obtain ⟨fn, tmps, assign, body, hy, hRr⟩ := HY.out (fun k => k = g) _ (a, c) W4 HJ4.out hnx
         simp only [skey] at hy
         clear hpr hpt hnx
         gi_wp2_with fail
         refine ⟨fun h => (by simp [Fence.wide] at h), hRr.mono ?_⟩
         clear hy hRr
         rintro e W5 (⟨rfl, hj5, hk5⟩ | ⟨rfl, hj5⟩)
         ·have HJ5 := Lib.hid hj5
          have HN5 := Lib.hid (HN4.out.of_heap (hk5.same _ HN4.out.lt (.inr rfl)))
          have HK5 := Lib.hid (HK4.out.trans (hk5.mono (T := R) fun _ _ h => .inl h))
          clear hj5 hk5
          gi_wp2_with fail
          go_roundw
          case rel => exact ⟨j + 1, by omega, by go_num, by rw [HPT2.out, ← List.append_assoc]; exact HJ5.out, HN5.out, HK5.out⟩
          case measure => simp [intOf]; omega
         ·have HJ5 := Lib.hid hj5
          clear hj5
          gi_wp2_with fail
          rw [Exit.noGoto_ret]; refine bodyPost_ret (results_none rfl _ _ _) rfl ?_
          exact ⟨⟨_, rfl⟩, .inr ⟨_, _, trivial, HJ5.out⟩⟩
       ·have hji : ¬ ((j : Int) < (L.length : Int)) := by omega
        have hje : j = L.length := by omega
        rw [hje, List.take_length, ← HWA.out, ← HTK.out] at hj
        have HJe := Lib.hid hj
        clear hje hj hnum hkp
        gi_wp2_with fail
        go_roundw
        case rel => exact ⟨k + 1, by omega, by go_num, HJe.out, HNi.out, HKi.out⟩
        case measure => simp [intOf]; omega
     ·have hwa : winsAt b (finsOf ps) L a = [(a, -1)] := by unfold winsAt; rw [if_pos hsi]
      have HTK2 := Lib.hid (HTK.out.trans (by rw [hwa]) : (L.take (k + 1)).flatMap (winsAt b (finsOf ps) L) = (L.take k).flatMap (winsAt b (finsOf ps) L) ++ [(a, -1)])
      have hnx : ∃ rest, winsP b (finsOf ps) = (L.take k).flatMap (winsAt b (finsOf ps) L) ++ (a, -1) :: rest := ⟨_, by rw [HWP.out, HSP.out, hwa]; rfl⟩
      obtain ⟨fn, tmps, assign, body, hy, hRr⟩ := HY.out (fun k => k = g) _ (a, -1) W3 HJ3.out hnx
      simp only [skey] at hy
      clear hsi hwa hnx
      gi_wp2_with fail
      refine ⟨fun h => (by simp [Fence.wide] at h), hRr.mono ?_⟩
      clear hy hRr
      rintro e W5 (⟨rfl, hj5, hk5⟩ | ⟨rfl, hj5⟩)
      ·have HJ5 := Lib.hid hj5
       have HN5 := Lib.hid (HN3.out.of_heap (hk5.same _ HN3.out.lt (.inr rfl)))
       have HK5 := Lib.hid (HK3.out.trans (hk5.mono (T := R) fun _ _ h => .inl h))
       clear hj5 hk5
       gi_wp2_with fail
       go_roundw
       case rel => exact ⟨k + 1, by omega, by go_num, by rw [HTK2.out]; exact HJ5.out, HN5.out, HK5.out⟩
       case measure => simp [intOf]; omega
      ·have HJ5 := Lib.hid hj5
       clear hj5
       gi_wp2_with fail
       rw [Exit.noGoto_ret]; refine bodyPost_ret (results_none rfl _ _ _) rfl ?_
       exact ⟨⟨_, rfl⟩, .inr ⟨_, _, trivial, HJ5.out⟩⟩
    ·have hki : ¬ ((k : Int) < (L.length : Int)) := by omega
     have hke : k = L.length := by omega
     rw [hke, List.take_length, ← HWP.out] at hj
     have HJe := Lib.hid hj
     clear hke hj hnum hkp
     gi_wp2_with fail
     go_end0
     exact ⟨⟨_, rfl⟩, .inl ⟨_, HJe.out⟩⟩
end Go.Proofs.Ytphajlldghcnnaa
namespace Go.Proofs.Ytphajlldghcnnaa
theorem chkG_perm : ∀ {g left l : List Int}, chkG left g = some l → left.Perm (g ++ l)
 | [], left, l, h => by cases h; exact List.Perm.refl _
 | r :: g, left, l, h => by
  unfold chkG at h
  split at h
  ·rename_i hr
   exact (List.perm_cons_erase hr).trans ((chkG_perm h).cons r)
  ·cases h
theorem chkF_perm : ∀ {fs : List (List Int)} {left l : List Int}, chkF left fs = some l → left.Perm (fs.flatten ++ l) ∧ ∀ g ∈ fs, g ≠ [] ∧ rising g = true
 | [], left, l, h => by cases h; exact ⟨List.Perm.refl _, fun g hg => by cases hg⟩
 | g :: fs, left, l, h => by
  unfold chkF at h
  split at h
  ·cases h
  rename_i hn
  rw [not_or] at hn
  cases hg : chkG left g with
  | none => rw [hg] at h; cases h
  | some m =>
   rw [hg] at h
   obtain ⟨h1, h2⟩ := chkF_perm (fs := fs) (left := m) (l := l) h
   refine ⟨?_, ?_⟩
   ·rw [List.flatten_cons, List.append_assoc]
    exact (chkG_perm hg).trans (h1.append_left g)
   ·intro x hx
    rcases List.mem_cons.1 hx with rfl | hx
    ·exact ⟨hn.1, by simpa using hn.2⟩
    ·exact h2 x hx
structure FinV (b : Bk) (fs : List (List Int)) : Prop where
 book : BVal b
 perm : (runL b).Perm fs.flatten
 ne : ∀ g ∈ fs, g ≠ []
 up : ∀ g ∈ fs, rising g = true
theorem finV_of {b : Bk} {fs : List (List Int)} (h : finErr b fs = 0) : FinV b fs := by
 unfold finErr at h
 split at h
 ·rename_i hb; exact absurd h hb
 rename_i hb
 split at h
 ·rename_i hc
  obtain ⟨h1, h2⟩ := chkF_perm hc
  rw [List.append_nil] at h1
  exact ⟨bval_of (by omega), h1, fun g hg => (h2 g hg).1, fun g hg => (h2 g hg).2⟩
 ·cases h
theorem FinV.len {b : Bk} {fs : List (List Int)} (h : FinV b fs) : fs.flatten.length = (runL b).length := h.perm.length_eq.symm
theorem FinV.pos {b : Bk} {fs : List (List Int)} (h : FinV b fs) : 0 < fs.length := by
 have h1 := h.len
 have h2 := runL_two h.book
 match fs, h1 with
 | [], h1 => simp at h1; omega
 | g :: l, _ => simp
theorem FinV.two {b : Bk} {fs : List (List Int)} (h : FinV b fs) : grp b fs ≤ fs.length := by
 have h1 := h.len
 have h2 := runL_two h.book
 have h3 := h.pos
 unfold grp
 split
 ·rename_i hg
  match fs, h1, hg.2 with
  | [], h1, _ => simp at h1; omega
  | [g], h1, hg => simp at h1 hg; omega
  | _ :: _ :: _, _, _ => simp
 ·omega
theorem FinV.ok {b : Bk} {ps : List (Value × List Int)} (h : FinV b (finsOf ps)) : FinOk b ps := by
 have h2 := runL_le h.book
 refine ⟨fun x hx => h.ne x.2 (by unfold finsOf; exact List.mem_map_of_mem hx), by rw [h.len]; omega, ?_, ?_⟩
 ·have := h.pos; simpa [finsOf] using this
 ·have := h.two; simpa [finsOf] using this
end Go.Proofs.Ytphajlldghcnnaa
