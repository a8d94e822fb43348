/-
  The walk of TurnNamed: it returns true.
-/
import Derived.Test.YtndgaklcnhoddaaNamedM
import Derived.Test.YtndgaklcnhoddaaLawB
import Derived.Test.YtndgaklcnhoddaaRa
import Derived.Test.YtndgaklcnhoddaaAllO
import Derived.Test.YtndgaklcnhoddaaRoveG
import Derived.Test.YtndgaklcnhoddaaRoveGT
namespace Go.Proofs.Ytndgaklcnhoddaa
open Go.RowKit Go.Shelf
theorem u8n {bs : List Int} (h : ∀ x ∈ bs, (Lit.int .u8 x).wf = true) : ∀ x ∈ bs, 0 ≤ x ∧ x ≤ 255 := fun x hx => by
  have := bounds_u8 (h x hx)
  omega
def NmQ (low n : Nat) (l : List Value) (v : Value) (W : World) : Prop := ∃ g cp, v = .slice (some ⟨g, 0, none⟩) n cp ∧ n ≤ cp ∧ cp ≤ 9223372036854775807 ∧ low ≤ g ∧ NumB W g n (gt (upL n)) ∧ ∀ x y c, l = [.slice (some ⟨x, 0, none⟩) y c] → x ≠ g
theorem NmQ.ext {low n : Nat} {l : List Value} {v : Value} {W W' : World} (h : NmQ low n l v W) (e : Ext W W') : NmQ low n l v W' := by
  obtain ⟨g, cp, h1, h2, h3, h4, h5, h6⟩ := h
  exact ⟨g, cp, h1, h2, h3, h4, h5.of_heap (e.block _ h5.lt), h6⟩
def TmQ (low : Nat) (s : List Int) (l : List Value) (v : Value) (W : World) : Prop := l = [v] ∧ Owns W low 3 1 v (s.map iRow)
theorem TmQ.ext {low : Nat} {s : List Int} {l : List Value} {v : Value} {W W' : World} (h : TmQ low s l v W) (e : Ext W W') : TmQ low s l v W' := ⟨h.1, h.2.ext e⟩
theorem sw_gt {a b i : Nat} {l : List Int} (ha : a < l.length) (hb : b < l.length) : (if i = b then gt l a else if i = a then gt l b else gt l i) = gt (sw a b l) i := by
  unfold gt sw
  rw [set_at _ _ _ _ (by simpa using hb), set_at _ _ _ _ ha]
theorem mem_take_one {l : List Int} {i : Nat} (h : i < l.length) (y : Int) : y ∈ l.take (i + 1) ↔ y ∈ l.take i ∨ y = gt l i := by
  rw [List.take_add_one, List.mem_append, List.getElem?_eq_getElem h, ← gt_get h]
  simp
theorem ext_kept {a b c : World} {q : Nat} (h : Ext a b) (k : Kept (fun k => k ≠ q) b c) (hq : a.heap.size ≤ q) : Ext a c :=
  Below.trans h ((k.mono (T := fun k => k < a.heap.size) (fun i _ hi => by omega)).below h.size)
set_option maxRecDepth 100000 in
set_option maxHeartbeats 8000000 in
theorem turnNamed_any (ks : List Int) (kv : Value) (bv : Value) (bs : List Int) (nv : Value) (ns : List Int) (w : World) (hv : IsInts w .i64 kv ks) (hb : IsInts w .u8 bv bs) (hw8 : ∀ x ∈ bs, (Lit.int .u8 x).wf = true)
    (hn : IsInts w .u8 nv ns) (hwn : ∀ x ∈ ns, (Lit.int .u8 x).wf = true) :
    Calls Try.prog 14 #[.agg #[kv], bv, nv] w fun e W => e = .returned (.bool true) ∧ Ext w W := by
  obtain ⟨sa, cap, rfl, h1, h2, -⟩ := hv.spec
  obtain ⟨ba, bcap, rfl, h3, h4, -⟩ := hb.spec
  obtain ⟨na, ncap, rfl, h5, h6, -⟩ := hn.spec
  have HV := Lib.hid hv
  have HB0 := Lib.hid hb
  have HN0 := Lib.hid hn
  have H8 := Lib.hid (u8n hw8)
  have H8n := Lib.hid (u8n hwn)
  clear hv hb hn hw8 hwn
  go_enter Try.func14, Try.ntmps14
  go_upto_region 1 with (fail)
  obtain ⟨W0, hW0⟩ : ∃ W0, W0 = w.alloc (.cells #[.slice sa ks.length cap] 24) := ⟨_, rfl⟩
  have hE : Ext w W0 := by rw [hW0]; exact (by repeat (first | exact Below.refl _ _ | refine Ext.al ?_ _ | refine Ext.dr ?_ | refine Ext.drN ?_ _ | refine Ext.gr ?_ _ | refine Ext.set ?_ (by simp) _ | (refine Ext.trans' ?_ (by assumption))))
  have k0 : W0.cell? ⟨w.heap.size, 0, none⟩ = some (.slice sa ks.length cap) := by rw [hW0]; simp [go_sem]
  have hz : w.heap.size < W0.heap.size := World.block_lt_of_cell? _ _ k0
  have HS := Lib.hid (HV.out.ext hE)
  have HW := Lib.hid hE
  rw [← hW0]
  clear hW0 HV
  have HB := Lib.hid (HB0.out.ext hE)
  have HNS := Lib.hid (HN0.out.ext hE)
  clear hE HB0 HN0



  go_wp2_with fail
  refine callW (W0 := W0) (g := ⟨W0, Below.refl _ _⟩) (by exact (by repeat (first | exact Below.refl _ _ | refine Ext.al ?_ _ | refine Ext.dr ?_ | refine Ext.drN ?_ _ | refine Ext.gr ?_ _ | refine Ext.set ?_ (by simp) _ | (refine Ext.trans' ?_ (by assumption))))) (fineL_any ks _ _ (HS.out.ext (by exact (by repeat (first | exact Below.refl _ _ | refine Ext.al ?_ _ | refine Ext.dr ?_ | refine Ext.drN ?_ _ | refine Ext.gr ?_ _ | refine Ext.set ?_ (by simp) _ | (refine Ext.trans' ?_ (by assumption))))))) fun g1 hgr => ?_
  clear hgr
  cases hfn : fineB ks
  · clear hfn

    go_wp2_with fail
    refine callW (W0 := W0) (g := g1) (by exact (by repeat (first | exact Below.refl _ _ | refine Ext.al ?_ _ | refine Ext.dr ?_ | refine Ext.drN ?_ _ | refine Ext.gr ?_ _ | refine Ext.set ?_ (by simp) _ | (refine Ext.trans' ?_ (by assumption))))) (works_any _) fun g2 hgr => ?_
    clear hgr
    go_wp2_with fail
    go_ret
    exact ⟨rfl, HW.out.trans' (grow_below W0 g2)⟩

  have V := Lib.hid (tval_of (of_decide_eq_true hfn))
  have n1 := V.out.n1
  have n5 := V.out.n5
  clear hfn
  by_cases hb20 : 20 < bs.length
  · have hd : decide ((20 : Int) < (bs.length : Int)) = true := decide_eq_true (by omega)
    clear hb20

    go_wp2_with fail
    refine callW (W0 := W0) (g := g1) (by exact (by repeat (first | exact Below.refl _ _ | refine Ext.al ?_ _ | refine Ext.dr ?_ | refine Ext.drN ?_ _ | refine Ext.gr ?_ _ | refine Ext.set ?_ (by simp) _ | (refine Ext.trans' ?_ (by assumption))))) (works_any _) fun g3 hgr => ?_
    clear hgr
    go_wp2_with fail
    go_ret
    exact ⟨rfl, HW.out.trans' (grow_below W0 g3)⟩

  have hd : decide ((20 : Int) < (bs.length : Int)) = false := decide_eq_false (by omega)
  clear hb20
  by_cases hb20 : 20 < ns.length
  · have hd : decide ((20 : Int) < (ns.length : Int)) = true := decide_eq_true (by omega)
    clear hb20

    go_wp2_with fail
    refine callW (W0 := W0) (g := g1) (by exact (by repeat (first | exact Below.refl _ _ | refine Ext.al ?_ _ | refine Ext.dr ?_ | refine Ext.drN ?_ _ | refine Ext.gr ?_ _ | refine Ext.set ?_ (by simp) _ | (refine Ext.trans' ?_ (by assumption))))) (works_any _) fun g4 hgr => ?_
    clear hgr
    go_wp2_with fail
    go_ret
    exact ⟨rfl, HW.out.trans' (grow_below W0 g4)⟩

  have hd : decide ((20 : Int) < (ns.length : Int)) = false := decide_eq_false (by omega)
  clear hb20
  go_wp2_with fail
  refine callWR (W0 := W0) (g := g1) (by exact (by repeat (first | exact Below.refl _ _ | refine Ext.al ?_ _ | refine Ext.dr ?_ | refine Ext.drN ?_ _ | refine Ext.gr ?_ _ | refine Ext.set ?_ (by simp) _ | (refine Ext.trans' ?_ (by assumption))))) (stateL_any ks bs _ _ _ (HS.out.ext (by exact (by repeat (first | exact Below.refl _ _ | refine Ext.al ?_ _ | refine Ext.dr ?_ | refine Ext.drN ?_ _ | refine Ext.gr ?_ _ | refine Ext.set ?_ (by simp) _ | (refine Ext.trans' ?_ (by assumption)))))) (HB.out.ext (by exact (by repeat (first | exact Below.refl _ _ | refine Ext.al ?_ _ | refine Ext.dr ?_ | refine Ext.drN ?_ _ | refine Ext.gr ?_ _ | refine Ext.set ?_ (by simp) _ | (refine Ext.trans' ?_ (by assumption)))))) H8.out V.out) (fun _ _ ⟨_, _, _, r, _⟩ => r) fun _ g5 hgr hr => ?_
  obtain ⟨x, s, rfl, -, hI, hst⟩ := hr
  clear hgr
  obtain ⟨a0, cs, rfl, -⟩ := hI.spec
  have HL := Lib.hid hI
  have HST := Lib.hid hst
  have hsl := isSt_len hst
  have HSL := Lib.hid hsl
  have hs1 : 1 ≤ s.length := by omega
  have hs5 : s.length ≤ 5 := by omega
  clear hI hst hsl

  go_upto_region 4 with (fail)
  obtain ⟨R0, hR0⟩ : ∃ zz9, zz9 = (grow W0 g5) := ⟨_, rfl⟩
  have eR0 : Ext W0 R0 := by rw [hR0]; exact (by repeat (first | exact Below.refl _ _ | refine Ext.al ?_ _ | refine Ext.dr ?_ | refine Ext.drN ?_ _ | refine Ext.gr ?_ _ | refine Ext.set ?_ (by simp) _ | (refine Ext.trans' ?_ (by assumption))))
  have eR0c : Ext (grow W0 g5) R0 := by rw [hR0]; exact (by repeat (first | exact Below.refl _ _ | refine Ext.al ?_ _ | refine Ext.dr ?_ | refine Ext.drN ?_ _ | refine Ext.gr ?_ _ | refine Ext.set ?_ (by simp) _ | (refine Ext.trans' ?_ (by assumption))))
  replace k0 := cell_ext eR0 k0
  replace HS := Lib.hid (HS.out.ext eR0)
  replace HB := Lib.hid (HB.out.ext eR0)
  replace HNS := Lib.hid (HNS.out.ext eR0)
  replace HL := Lib.hid (HL.out.ext eR0c)
  replace HW := Lib.hid (HW.out.trans' eR0)
  rw [← hR0]
  replace hz := World.block_lt_of_cell? _ _ k0
  clear hR0 eR0 eR0c
  simp only at hz
  obtain ⟨Y0, hY0⟩ : ∃ Y0, Y0 = R0 := ⟨_, rfl⟩
  subst hY0
  go_wp2_with (at_builtin; refine wpNew rfl (.tmp 50) (.tmp 52) elInt rfl Y0.heap.size rfl (isNew _ _ _ _ (Nat.le_refl _)) rfl (ks.map iRow) ints_len (HS.out.ext (by exact (by repeat (first | exact Below.refl _ _ | refine Ext.al ?_ _ | refine Ext.dr ?_ | refine Ext.drN ?_ _ | refine Ext.gr ?_ _ | refine Ext.set ?_ (by simp) _ | (refine Ext.trans' ?_ (by assumption)))))) ints_one (by simp; omega) (by simp) ?_)
  intro v' W1 hown hE1
  obtain ⟨q, qc, rfl, hy1, hy2, hqB, hQ⟩ := hown.cellsN (by omega)
  have hE01 : Ext Y0 W1 := Ext.trans' (by exact (by repeat (first | exact Below.refl _ _ | refine Ext.al ?_ _ | refine Ext.dr ?_ | refine Ext.drN ?_ _ | refine Ext.gr ?_ _ | refine Ext.set ?_ (by simp) _ | (refine Ext.trans' ?_ (by assumption))))) hE1
  have k1 := cell_ext hE01 k0
  have HS1 := Lib.hid (HS.out.ext hE01)
  have HB1 := Lib.hid (HB.out.ext hE01)
  have HNS1 := Lib.hid (HNS.out.ext hE01)
  have HL1 := Lib.hid (HL.out.ext hE01)
  have HQ1 := Lib.hid hQ
  have HE1 := Lib.hid hE01
  have hql := hQ.lt
  have HK0 := Lib.hid k0
  clear hown hE1 hE01 k0 hQ HB
  go_upto_region 5 with (fail)
  obtain ⟨h, hh⟩ : ∃ h, h = W1.heap.size := ⟨_, rfl⟩
  obtain ⟨W2, hW2⟩ : ∃ W2, W2 = W1.alloc (.cells #[.slice (some ⟨q, 0, none⟩) ks.length qc] 24) := ⟨_, rfl⟩
  have hE12 : Ext W1 W2 := by rw [hW2]; exact (by repeat (first | exact Below.refl _ _ | refine Ext.al ?_ _ | refine Ext.dr ?_ | refine Ext.drN ?_ _ | refine Ext.gr ?_ _ | refine Ext.set ?_ (by simp) _ | (refine Ext.trans' ?_ (by assumption))))
  have x0 : W2.cell? ⟨h, 0, none⟩ = some (.slice (some ⟨q, 0, none⟩) ks.length qc) := by rw [hW2, hh]; simp [go_sem]
  have hqh : q ≠ h := by omega
  have hqe : Y0.heap.size ≤ q := hqB
  have hhe : Y0.heap.size ≤ h := by have := HE1.out.size; omega
  have hhl : h < W2.heap.size := World.block_lt_of_cell? _ _ x0
  rw [← hW2, ← hh]
  have k2 := cell_ext hE12 k1
  have HS2 := Lib.hid (HS1.out.ext hE12)
  have HL2 := Lib.hid (HL1.out.ext hE12)
  have HNS2 := Lib.hid (HNS1.out.ext hE12)
  have HQ2 := Lib.hid (HQ1.out.of_heap (hE12.block _ hql))
  have HE2 := Lib.hid (HE1.out.trans' hE12)
  have hz2 := World.block_lt_of_cell? _ _ k2
  simp only at hz2
  have hql2 : q < W2.heap.size := HQ2.out.lt
  clear hW2 hh hE12 k1 HS1 HL1 HNS1 HB1 HQ1 HE1
  refine wp_region_roveG (W2.heap.size) (Nat.le_refl _)
    [sqW (fun v W => IsNew W (W2.heap.size) 3 1 v) (fun _ _ _ h e => h.ext e),
     sqV (.slice a0 s.length cs),
     sqW (fun v W => Owns W W2.heap.size 3 1 v (s.map iRow)) (fun _ _ _ h e => h.ext e),
     sqV (.agg #[.slice sa ks.length cap]),
     sqD [2] (fun l v W => NmQ W2.heap.size ks.length l v W) (fun _ _ _ _ h e => h.ext e),
     sqD [2] (fun l v W => TmQ W2.heap.size s l v W) (fun _ _ _ _ h e => h.ext e),
     sqD [2] (fun l v W => NmQ W2.heap.size ks.length l v W) (fun _ _ _ _ h e => h.ext e)]
    [false, true, false, true, false, false, false] [false, false, false, false, false, false, false] [true, true, true, true, true, true, true] [true, true, true, true, true, true, true] [true, true, true, true, true, true, true] []
    (by kernel_rfl) (by kernel_rfl) (by decide +kernel) trivial (by decide +kernel) (by decide +kernel) (by decide +kernel) rfl ⟨rfl, rfl, rfl⟩ ⟨?s0, ?s1, ?s2, ?s3, ?s4, ?s5, ?s6, trivial⟩ [some 55, some 56, some 57, some 58, some 59, some 9, some 10] rfl rfl ?send
  case s0 =>
    intro val ρ W hE hz hd hu hA hx
    exact runq_val (W' := W.alloc (.cells #[] 3)) (v := .slice (some ⟨W.heap.size, 0, none⟩) 0 0) (by simp [execOp, go_sem]) (by repeat (first | exact Below.refl _ _ | refine Ext.al ?_ _ | refine Ext.dr ?_ | refine Ext.drN ?_ _ | refine Ext.gr ?_ _ | refine Ext.set ?_ (by simp) _ | (refine Ext.trans' ?_ (by assumption)))) (isNew W _ _ _ (by omega))
  case s1 =>
    intro val ρ W hE hz hd hu hA hx
    have o0 : ρ (.tmp 7) = .slice a0 s.length cs := hA.old 7 (by decide)
    clear hd hu
    exact runq_val (W' := W) (by simp [execOp, o0, go_sem]) (Below.refl _ _) rfl
  case s3 =>
    intro val ρ W hE hz hd hu hA hx
    have o0 : ρ (.tmp 3) = .pointer (some ⟨w.heap.size, 0, none⟩) := hA.old 3 (by decide)
    have f_k2 := cell_below hE (by simp only; omega) k2
    clear hd hu
    exact runq_val (W' := W) (by simp [execOp, o0, f_k2, go_sem]) (Below.refl _ _) rfl
  case s2 =>
    intro val ρ W hE hz hd hu hA hx
    have d0 : IsNew W W2.heap.size 3 1 (val 0) := hd 0 (by decide)
    have e0 : ρ (.tmp 55) = val 0 := hA.dep 0 (by decide) 55 rfl
    have d1 : ρ (.tmp 56) = .slice a0 s.length cs := (hA.dep 1 (by decide) 56 rfl).trans (hd 1 (by decide))
    clear hd hu
    have hb1 : (s.map iRow).length ≤ 1000000 := by rw [List.length_map]; omega
    have hS : IsRows W 1 (.slice a0 s.length cs) (s.map iRow) := HL2.out.ext hE
    obtain ⟨v', w', hrun, ho, he⟩ := app_new elInt 22 _ d0 (s.map iRow) ints_len hS ints_one hb1 hz
    exact runq_append (.tmp 55) (.tmp 56) rfl rfl _ _ e0 d1 hrun he ho
  case s4 =>
    intro val ρ W hE hz hd hu hA hx
    have d3 : ρ (.tmp 58) = .agg #[.slice sa ks.length cap] := (hA.dep 3 (by decide) 58 rfl).trans (hd 3 (by decide))
    have q2 : Owns W W2.heap.size 3 1 (val 2) (s.map iRow) := hu 2 (List.Mem.head _)
    clear hd hu
    obtain ⟨tg, tc, e2, -, -, -, hTN⟩ := q2.cellsN (by omega)
    have htl := hTN.lt
    refine runq_call 56 _ _ rfl #[.agg #[.slice sa ks.length cap]] (hA.func _) (by simp [d3]) (fun args W => Try.call56 args W) ((allO_any ks _ W (HS2.out.ext hE) (by omega) (by omega)).mono ?_)
    rintro e w' ⟨g, cp, rfl, hb, h1, h2, h3, h4⟩
    exact ⟨_, rfl, hb, g, cp, rfl, h1, h2, by omega, h4, fun x y c hl => by
      have hl1 : [val 2] = [.slice (some ⟨x, 0, none⟩) y c] := hl
      have hl2 := (List.cons.inj hl1).1
      rw [e2] at hl2
      cases hl2
      omega⟩
  case s5 =>
    intro val ρ W hE hz hd hu hA hx
    have q2 : Owns W W2.heap.size 3 1 (val 2) (s.map iRow) := hd 2 (by decide)
    have d2 : ρ (.tmp 57) = val 2 := hA.dep 2 (by decide) 57 rfl
    exact runq_val (W' := W) (v := val 2) (by simp [execOp, d2, go_sem]) (Below.refl _ _) ⟨rfl, q2⟩
  case s6 =>
    intro val ρ W hE hz hd hu hA hx
    have q4 : NmQ W2.heap.size ks.length [val 2] (val 4) W := hd 4 (by decide)
    have d4 : ρ (.tmp 59) = val 4 := hA.dep 4 (by decide) 59 rfl
    exact runq_val (W' := W) (v := val 4) (by simp [execOp, d4, go_sem]) (Below.refl _ _) q4
  case send =>
    intro val WW hE hzz hv
    obtain ⟨-, -, -, -, -, q5, q6, -⟩ := hv
    obtain ⟨e5, q5⟩ : TmQ W2.heap.size s [val 2] (val 5) WW := q5
    obtain ⟨m, mc, e6, hm1, hm2, hmB, hM, hne⟩ : NmQ W2.heap.size ks.length [val 2] (val 6) WW := q6
    obtain ⟨g, gc, e7, hg1, hg2, hgB, hG⟩ := q5.cellsN (by omega)
    rw [List.cons.inj e5 |>.1, e7] at hne
    have hgm : g ≠ m := hne _ _ _ rfl
    rw [HSL.out] at e7 hg1 hG
    simp only [putD, e7, e6]
    go_frame
    have hEW : Ext W2 WW := hE
    have k3 := cell_ext hEW k2
    have x1 := cell_ext hEW x0
    have HS3 := Lib.hid (HS2.out.ext hEW)
    have HL3 := Lib.hid (HL2.out.ext hEW)
    have HNS3 := Lib.hid (HNS2.out.ext hEW)
    have HQ3 := Lib.hid (HQ2.out.of_heap (hEW.block _ hql2))
    have HG3 := Lib.hid hG
    have HM3 := Lib.hid hM
    have HE3 := Lib.hid (HE2.out.trans' hEW)
    have hgq : g ≠ q := by omega
    have hgh : g ≠ h := by omega
    have hmq : m ≠ q := by omega
    have hmh : m ≠ h := by omega
    have hge : Y0.heap.size ≤ g := by have := HE2.out.size; omega
    have hme : Y0.heap.size ≤ m := by have := HE2.out.size; omega
    have HGC := Lib.hid (And.intro hg1 hg2)
    have HMC := Lib.hid (And.intro hm1 hm2)
    have HQC := Lib.hid (And.intro hy1 hy2)
    clear q5 e5 e6 e7 hne hm1 hm2 hmB hM hg1 hg2 hgB hG hE hzz hEW k2 x0 HS2 HL2 HNS2 HQ2 HE2 hql2 hhl hy1 hy2 hz2
    go_wp2_with fail
    go_loopw [11] (fun iv W => ∃ (j : Nat) (KX T NM : List Int), j ≤ ns.length ∧ iv = .int .i64 j ∧ NamI ks s KX T NM ∧ NumB W q ks.length (gt KX) ∧ NumB W g ks.length (gt T) ∧ NumB W m ks.length (gt NM) ∧ W.cell? ⟨h, 0, none⟩ = some (.slice (some ⟨q, 0, none⟩) ks.length qc) ∧ Ext Y0 W) (fun iv _ => ns.length - (intOf iv).toNat)
    case atStart => exact ⟨0, ks, s, upL ks.length, by omega, rfl, NamI.start V.out HST.out, HQ3.out, HG3.out, HM3.out, x1, HE3.out⟩
    case round =>
      obtain ⟨j, KX, T, NM, hj, rfl, hnam, hq, hg, hm, x2, hE⟩ := hrel
      have HNAM := Lib.hid hnam
      have HEr := Lib.hid hE
      by_cases hlt : j < ns.length
      · have hji : (j : Int) < (ns.length : Int) := by omega
        obtain ⟨nb, no, rfl, hnz, hnc⟩ := HNS.out.at_allK (by omega)
        have c0 := hnc wr hE j hlt
        have hu8 := gt_u8 H8n.out hlt
        obtain ⟨u, hu⟩ : ∃ u, u = gt ns j := ⟨_, rfl⟩
        rw [← hu] at c0 hu8
        have hcz := World.block_lt_of_cell? _ _ c0
        simp only at hcz
        obtain ⟨n, hn⟩ : ∃ n, n = ks.length := ⟨_, rfl⟩
        obtain ⟨A, hA⟩ : ∃ A, A = j % n := ⟨_, rfl⟩
        obtain ⟨B, hB⟩ : ∃ B, B = u.toNat % n := ⟨_, rfl⟩
        have hAn : A < n := by rw [hA]; exact Nat.mod_lt _ (by omega)
        have hBn : B < n := by rw [hB]; exact Nat.mod_lt _ (by omega)
        have hmtA : Int.tmod (j : Int) (n : Int) = (A : Int) := by rw [Int.tmod_eq_emod_of_nonneg (by omega), hA]; rfl
        have hmtB : Int.tmod u (n : Int) = (B : Int) := by
          rw [Int.tmod_eq_emod_of_nonneg (by omega), hB]
          conv => lhs; rw [show u = (u.toNat : Int) by omega]
          rfl
        have hmeA : (j : Int) % (n : Int) = (A : Int) := by rw [← hmtA, Int.tmod_eq_emod_of_nonneg (by omega)]
        have hmeB : u % (n : Int) = (B : Int) := by rw [← hmtB, Int.tmod_eq_emod_of_nonneg (by omega)]
        rw [hn] at hAn hBn hmtA hmtB hmeA hmeB
        have hnn : ((ks.length : Int) == 0) = false := by rw [beq_eq_false_iff_ne]; omega
        have hnn2 : ¬ ((ks.length : Int) = 0) := by omega
        have hnn3 : ¬ ks = [] := fun h => by rw [h] at n1; simp at n1
        have hw1 : IntKind.i64.wrap u = u := IntWalk.i64_in _ (by omega)
        have hw3 : IntKind.i64.wrap (A : Int) = (A : Int) := IntWalk.i64_in _ (by omega)
        have hw4 : IntKind.i64.wrap (B : Int) = (B : Int) := IntWalk.i64_in _ (by omega)
        have hAi : (A : Int) < (ks.length : Int) := by omega
        have hBi : (B : Int) < (ks.length : Int) := by omega
        have HQr := Lib.hid hq
        have HGr := Lib.hid hg
        have HMr := Lib.hid hm
        have HX2 := Lib.hid x2
        clear hu hA hB hn hE hq hg hm x2 hnc hnam
        go_upto_region 9 with (fail)
        go_quiet (fail)
        go_upto_region 10 with (fail)
        obtain ⟨X, hX⟩ : ∃ X, wr.drewN nq = X := ⟨_, rfl⟩
        have hEX : Ext wr X := by rw [← hX]; exact Ext.drN (Below.refl _ _) nq
        rw [hX]
        clear hX
        have hq := HQr.out.of_heap (hEX.block _ HQr.out.lt)
        have x2 := cell_ext hEX HX2.out
        have qa := hq.cell A (by omega)
        have qb := hq.cell B (by omega)
        have fa := hq.free A
        have fb := hq.free B
        have zq := hq.lt
        have zx := World.block_lt_of_cell? _ _ x2
        simp only at zx
        have HQX := Lib.hid hq
        have HEX := Lib.hid hEX
        clear hq hEX c0 hcz hmtA hmtB hmeA hmeB hnn hnn2 hnn3 hw1
        have hAl : A < KX.length := by rw [HNAM.out.kl]; exact hAn
        have hBl : B < KX.length := by rw [HNAM.out.kl]; exact hBn
        have HSTEP := Lib.hid (HNAM.out.step hAn hBn)
        have SQ := Lib.hid (fun i => sw_gt (i := i) hAl hBl)
        have ST := Lib.hid (fun i => sw_gt (i := i) (l := T) (show A < T.length by rw [HNAM.out.tl]; exact hAn) (show B < T.length by rw [HNAM.out.tl]; exact hBn))
        have SM := Lib.hid (fun i => sw_gt (i := i) (l := NM) (show A < NM.length by rw [HNAM.out.nl]; exact hAn) (show B < NM.length by rw [HNAM.out.nl]; exact hBn))
        have HGX := Lib.hid (HGr.out.of_heap (HEX.out.block _ HGr.out.lt))
        have HMX := Lib.hid (HMr.out.of_heap (HEX.out.block _ HMr.out.lt))
        have HEY := Lib.hid (HEr.out.trans' HEX.out)
        clear hAl hBl HGr HMr HQr HEX
        have qb1 := (HQX.out.set A (gt KX B)).cell B (by omega)
        have fb1 := (HQX.out.set A (gt KX B)).free B
        go_region
        go_upto_region 11 with (fail)
        obtain ⟨X1, hX1⟩ : ∃ X1, X1 = ((X.setCell ⟨q, A, none⟩ (.int .i64 (gt KX B))).setCell ⟨q, B, none⟩ (.int .i64 (gt KX A))).drew := ⟨_, rfl⟩
        rw [← hX1]
        have hk1 : Kept (fun k => k ≠ q) X X1 := by rw [hX1]; exact (((Kept.refl _ X).setCell (fun _ hn => hn rfl) _).setCell (fun _ hn => hn rfl) _).drew
        have hq1 : NumB X1 q ks.length (gt (sw A B KX)) := by rw [hX1]; exact NumB.of_heap (W := (X.setCell ⟨q, A, none⟩ (.int .i64 (gt KX B))).setCell ⟨q, B, none⟩ (.int .i64 (gt KX A))) (((HQX.out.set A _).set B _).congr fun i _ => SQ.out i) rfl
        have hg1 : NumB X1 g ks.length (gt T) := HGX.out.of_heap (hk1.same _ HGX.out.lt (by omega))
        have hm1 : NumB X1 m ks.length (gt NM) := HMX.out.of_heap (hk1.same _ HMX.out.lt (by omega))
        have x3 := hk1.cell x2 (by show h ≠ q; omega)
        have HEY1 := Lib.hid (ext_kept HEY.out hk1 (by omega))
        have HQ1 := Lib.hid hq1
        have HG1 := Lib.hid hg1
        have HM1 := Lib.hid hm1
        have ga := hg1.cell A (by omega)
        have gb := hg1.cell B (by omega)
        have gfa := hg1.free A
        have gfb := hg1.free B
        have gz := hg1.lt
        have gb1 := (hg1.set A (gt T B)).cell B (by omega)
        have gfb1 := (hg1.set A (gt T B)).free B
        clear hX1 hk1 hq1 hg1 hm1 x2 qa qb fa fb qb1 fb1 zq zx HQX HGX HMX HEY
        go_region
        go_upto_region 12 with (fail)
        obtain ⟨X2, hX2⟩ : ∃ X2, X2 = ((X1.setCell ⟨g, A, none⟩ (.int .i64 (gt T B))).setCell ⟨g, B, none⟩ (.int .i64 (gt T A))).drew := ⟨_, rfl⟩
        rw [← hX2]
        have hk2 : Kept (fun k => k ≠ g) X1 X2 := by rw [hX2]; exact (((Kept.refl _ X1).setCell (fun _ hn => hn rfl) _).setCell (fun _ hn => hn rfl) _).drew
        have hq2 : NumB X2 q ks.length (gt (sw A B KX)) := HQ1.out.of_heap (hk2.same _ HQ1.out.lt (by omega))
        have hg2 : NumB X2 g ks.length (gt (sw A B T)) := by rw [hX2]; exact NumB.of_heap (W := (X1.setCell ⟨g, A, none⟩ (.int .i64 (gt T B))).setCell ⟨g, B, none⟩ (.int .i64 (gt T A))) (((HG1.out.set A _).set B _).congr fun i _ => ST.out i) rfl
        have hm2 : NumB X2 m ks.length (gt NM) := HM1.out.of_heap (hk2.same _ HM1.out.lt (by omega))
        have x4 := hk2.cell x3 (by show h ≠ g; omega)
        have HEY2 := Lib.hid (ext_kept HEY1.out hk2 (by omega))
        have HQ2 := Lib.hid hq2
        have HG2 := Lib.hid hg2
        have HM2 := Lib.hid hm2
        have HX4 := Lib.hid x4
        have ma := hm2.cell A (by omega)
        have mb := hm2.cell B (by omega)
        have mfa := hm2.free A
        have mfb := hm2.free B
        have mz := hm2.lt
        have mb1 := (hm2.set A (gt NM B)).cell B (by omega)
        have mfb1 := (hm2.set A (gt NM B)).free B
        clear hX2 hk2 hq2 hg2 hm2 x3 x4 ga gb gfa gfb gb1 gfb1 gz HQ1 HG1 HM1 HEY1
        go_region
        go_wp2_with fail
        go_roundw
        case rel =>
          have hk3 := (((Kept.refl (fun k => k ≠ m) X2).setCell (p := ⟨m, A, none⟩) (fun _ hn => hn rfl) (.int .i64 (gt NM B))).setCell (p := ⟨m, B, none⟩) (fun _ hn => hn rfl) (.int .i64 (gt NM A))).drew
          refine ⟨j + 1, sw A B KX, sw A B T, sw A B NM, by omega, by go_num, HSTEP.out, HQ2.out.of_heap (hk3.same _ HQ2.out.lt (by omega)), HG2.out.of_heap (hk3.same _ HG2.out.lt (by omega)), ?_, hk3.cell HX4.out (by show h ≠ m; omega), ext_kept HEY2.out hk3 (by omega)⟩
          exact NumB.of_heap (W := (X2.setCell ⟨m, A, none⟩ (.int .i64 (gt NM B))).setCell ⟨m, B, none⟩ (.int .i64 (gt NM A))) (((HM2.out.set A _).set B _).congr fun i _ => SM.out i) rfl
        case measure => simp [intOf]; omega
      · have hji : ¬ ((j : Int) < (ns.length : Int)) := by omega
        have HRES := Lib.hid (hnam.res V.out HST.out)
        have HXI := Lib.hid (hq.intsC (c := KX) hnam.kl.symm HQC.out.1 HQC.out.2)
        have HTI := Lib.hid (hg.intsC (c := T) hnam.tl.symm HGC.out.1 HGC.out.2)
        have HNI := Lib.hid (hm.intsC (c := NM) hnam.nl.symm HMC.out.1 HMC.out.2)
        have HSZ := Lib.hid (HS.out.ext hE)
        have HLZ := Lib.hid (HL.out.ext hE)
        have HRZ := Lib.hid (HW.out.trans' hE)
        have k9 := cell_ext hE HK0.out
        have hz9 := World.block_lt_of_cell? _ _ k9
        have zx9 := World.block_lt_of_cell? _ _ x2
        simp only at hz9 zx9
        have HNK := Lib.hid hnam
        obtain ⟨Z, hZ⟩ : ∃ Z, Z = wr := ⟨_, rfl⟩
        subst hZ
        clear hE hq hg hm hnam





        go_wp2_with fail
        refine callWR (W0 := Z) (g := ⟨Z, Below.refl _ _⟩) (by exact (by repeat (first | exact Below.refl _ _ | refine Ext.al ?_ _ | refine Ext.dr ?_ | refine Ext.drN ?_ _ | refine Ext.gr ?_ _ | refine Ext.set ?_ (by simp) _ | (refine Ext.trans' ?_ (by assumption))))) (circleT_any ks _ _ (HSZ.out.ext (by exact (by repeat (first | exact Below.refl _ _ | refine Ext.al ?_ _ | refine Ext.dr ?_ | refine Ext.drN ?_ _ | refine Ext.gr ?_ _ | refine Ext.set ?_ (by simp) _ | (refine Ext.trans' ?_ (by assumption))))))) (fun _ _ ⟨_, _, _, r, _⟩ => r) fun _ g1 hgr hr => ?_
        obtain ⟨x, l1, rfl, -, hI, hcr⟩ := hr
        clear hgr
        obtain ⟨a1, c1, rfl, -⟩ := hI.spec
        have HC1 := Lib.hid hcr
        clear hI hcr
        go_wp2_with fail
        refine callWR (W0 := Z) (g := g1) (by exact (by repeat (first | exact Below.refl _ _ | refine Ext.al ?_ _ | refine Ext.dr ?_ | refine Ext.drN ?_ _ | refine Ext.gr ?_ _ | refine Ext.set ?_ (by simp) _ | (refine Ext.trans' ?_ (by assumption))))) (circleT_any KX _ _ (HXI.out.ext (by exact (by repeat (first | exact Below.refl _ _ | refine Ext.al ?_ _ | refine Ext.dr ?_ | refine Ext.drN ?_ _ | refine Ext.gr ?_ _ | refine Ext.set ?_ (by simp) _ | (refine Ext.trans' ?_ (by assumption))))))) (fun _ _ ⟨_, _, _, r, _⟩ => r) fun _ g2 hgr hr => ?_
        obtain ⟨x, l2, rfl, -, hI, hcr⟩ := hr
        clear hgr
        obtain ⟨a2, c2, rfl, -⟩ := hI.spec
        have hll : l2.length = l1.length := by
          by_cases h0 : circleErr ks = 0
          · exact IsShort.inj (hcr.short (HRES.out.circ.trans h0)) (HNK.out.short _ (HC1.out.short h0))
          · rw [HC1.out.bad h0, hcr.bad (fun h => h0 (HRES.out.circ.symm.trans h))]
        rw [HRES.out.circ, hll]
        obtain ⟨ce, hce⟩ : ∃ ce, ce = circleErr ks := ⟨_, rfl⟩
        obtain ⟨cl, hcl⟩ : ∃ cl, cl = l1.length := ⟨_, rfl⟩
        rw [← hce, ← hcl]
        clear hI hcr hll hce hcl HC1
        go_wp2_with fail
        refine callW (W0 := Z) (g := g2) (by exact (by repeat (first | exact Below.refl _ _ | refine Ext.al ?_ _ | refine Ext.dr ?_ | refine Ext.drN ?_ _ | refine Ext.gr ?_ _ | refine Ext.set ?_ (by simp) _ | (refine Ext.trans' ?_ (by assumption))))) (count_any ks _ _ (HSZ.out.ext (by exact (by repeat (first | exact Below.refl _ _ | refine Ext.al ?_ _ | refine Ext.dr ?_ | refine Ext.drN ?_ _ | refine Ext.gr ?_ _ | refine Ext.set ?_ (by simp) _ | (refine Ext.trans' ?_ (by assumption))))))) fun g3 hgr => ?_
        clear hgr
        rw [HRES.out.cnt.2.2]
        go_wp2_with fail
        refine callW (W0 := Z) (g := g3) (by exact (by repeat (first | exact Below.refl _ _ | refine Ext.al ?_ _ | refine Ext.dr ?_ | refine Ext.drN ?_ _ | refine Ext.gr ?_ _ | refine Ext.set ?_ (by simp) _ | (refine Ext.trans' ?_ (by assumption))))) (count_any KX _ _ (HXI.out.ext (by exact (by repeat (first | exact Below.refl _ _ | refine Ext.al ?_ _ | refine Ext.dr ?_ | refine Ext.drN ?_ _ | refine Ext.gr ?_ _ | refine Ext.set ?_ (by simp) _ | (refine Ext.trans' ?_ (by assumption))))))) fun g4 hgr => ?_
        clear hgr
        rw [HRES.out.cnt.1, HRES.out.cnt.2.1]
        obtain ⟨cn, hcn⟩ : ∃ cn, cn = (countErr ks).1 := ⟨_, rfl⟩
        rw [← hcn]
        clear hcn
        go_wp2_with fail
        refine callWR (W0 := Z) (g := g4) (by exact (by repeat (first | exact Below.refl _ _ | refine Ext.al ?_ _ | refine Ext.dr ?_ | refine Ext.drN ?_ _ | refine Ext.gr ?_ _ | refine Ext.set ?_ (by simp) _ | (refine Ext.trans' ?_ (by assumption))))) (next_any ks s _ _ _ (HSZ.out.ext (by exact (by repeat (first | exact Below.refl _ _ | refine Ext.al ?_ _ | refine Ext.dr ?_ | refine Ext.drN ?_ _ | refine Ext.gr ?_ _ | refine Ext.set ?_ (by simp) _ | (refine Ext.trans' ?_ (by assumption)))))) (HLZ.out.ext (by exact (by repeat (first | exact Below.refl _ _ | refine Ext.al ?_ _ | refine Ext.dr ?_ | refine Ext.drN ?_ _ | refine Ext.gr ?_ _ | refine Ext.set ?_ (by simp) _ | (refine Ext.trans' ?_ (by assumption))))))) (fun _ _ ⟨_, _, r, _⟩ => r) fun _ g5 hgr hr => ?_
        obtain ⟨x, rfl, -, hI⟩ := hr
        clear hgr
        obtain ⟨a3, c3, rfl, hu1, hu2, -⟩ := hI.spec
        have HU := Lib.hid hI
        clear hI

        go_wp2_with fail
        refine callWR (W0 := Z) (g := g5) (by exact (by repeat (first | exact Below.refl _ _ | refine Ext.al ?_ _ | refine Ext.dr ?_ | refine Ext.drN ?_ _ | refine Ext.gr ?_ _ | refine Ext.set ?_ (by simp) _ | (refine Ext.trans' ?_ (by assumption))))) (next_any KX T _ _ _ (HXI.out.ext (by exact (by repeat (first | exact Below.refl _ _ | refine Ext.al ?_ _ | refine Ext.dr ?_ | refine Ext.drN ?_ _ | refine Ext.gr ?_ _ | refine Ext.set ?_ (by simp) _ | (refine Ext.trans' ?_ (by assumption)))))) (HTI.out.ext (by exact (by repeat (first | exact Below.refl _ _ | refine Ext.al ?_ _ | refine Ext.dr ?_ | refine Ext.drN ?_ _ | refine Ext.gr ?_ _ | refine Ext.set ?_ (by simp) _ | (refine Ext.trans' ?_ (by assumption))))))) (fun _ _ ⟨_, _, r, _⟩ => r) fun _ g6 hgr hr => ?_
        obtain ⟨x, rfl, -, hI⟩ := hr
        replace HU := Lib.hid (HU.out.ext hgr)
        clear hgr
        obtain ⟨a4, c4, rfl, hv1, hv2, -⟩ := hI.spec
        have HVI := Lib.hid hI
        clear hI

        rw [HRES.out.nerr]
        go_wp2_with fail
        refine callWR (W0 := Z) (g := g6) (by exact (by repeat (first | exact Below.refl _ _ | refine Ext.al ?_ _ | refine Ext.dr ?_ | refine Ext.drN ?_ _ | refine Ext.gr ?_ _ | refine Ext.set ?_ (by simp) _ | (refine Ext.trans' ?_ (by assumption))))) (lasts_any ks s _ _ _ (HSZ.out.ext (by exact (by repeat (first | exact Below.refl _ _ | refine Ext.al ?_ _ | refine Ext.dr ?_ | refine Ext.drN ?_ _ | refine Ext.gr ?_ _ | refine Ext.set ?_ (by simp) _ | (refine Ext.trans' ?_ (by assumption)))))) (HLZ.out.ext (by exact (by repeat (first | exact Below.refl _ _ | refine Ext.al ?_ _ | refine Ext.dr ?_ | refine Ext.drN ?_ _ | refine Ext.gr ?_ _ | refine Ext.set ?_ (by simp) _ | (refine Ext.trans' ?_ (by assumption))))))) (fun _ _ ⟨_, _, r, _⟩ => r) fun _ g7 hgr hr => ?_
        obtain ⟨x, rfl, -, hI⟩ := hr
        replace HU := Lib.hid (HU.out.ext hgr)
        replace HVI := Lib.hid (HVI.out.ext hgr)
        clear hgr
        obtain ⟨a5, c5, rfl, -⟩ := hI.spec
        clear hI
        go_wp2_with fail
        refine callWR (W0 := Z) (g := g7) (by exact (by repeat (first | exact Below.refl _ _ | refine Ext.al ?_ _ | refine Ext.dr ?_ | refine Ext.drN ?_ _ | refine Ext.gr ?_ _ | refine Ext.set ?_ (by simp) _ | (refine Ext.trans' ?_ (by assumption))))) (lasts_any KX T _ _ _ (HXI.out.ext (by exact (by repeat (first | exact Below.refl _ _ | refine Ext.al ?_ _ | refine Ext.dr ?_ | refine Ext.drN ?_ _ | refine Ext.gr ?_ _ | refine Ext.set ?_ (by simp) _ | (refine Ext.trans' ?_ (by assumption)))))) (HTI.out.ext (by exact (by repeat (first | exact Below.refl _ _ | refine Ext.al ?_ _ | refine Ext.dr ?_ | refine Ext.drN ?_ _ | refine Ext.gr ?_ _ | refine Ext.set ?_ (by simp) _ | (refine Ext.trans' ?_ (by assumption))))))) (fun _ _ ⟨_, _, r, _⟩ => r) fun _ g8 hgr hr => ?_
        obtain ⟨x, rfl, -, hI⟩ := hr
        replace HU := Lib.hid (HU.out.ext hgr)
        replace HVI := Lib.hid (HVI.out.ext hgr)
        clear hgr
        obtain ⟨a6, c6, rfl, -⟩ := hI.spec
        clear hI
        rw [HRES.out.lerr, HRES.out.llen]
        obtain ⟨pl, hpl⟩ : ∃ pl, pl = (lastsL ks s).length := ⟨_, rfl⟩
        obtain ⟨un, hun⟩ : ∃ un, un = (nextL ks s).length := ⟨_, rfl⟩
        have hvn : (nextL KX T).length = un := by rw [HRES.out.nlen, hun]
        rw [hvn, ← hun, ← hpl]
        have HUN := Lib.hid hun
        have HVN := Lib.hid hvn
        rw [← hun] at HU hu1
        rw [hvn] at HVI hv1
        clear hpl hun hvn
        obtain ⟨ne, hne⟩ : ∃ ne, ne = nextErr ks s := ⟨_, rfl⟩
        obtain ⟨le, hle⟩ : ∃ le, le = lastsErr ks s := ⟨_, rfl⟩
        obtain ⟨bq, hq1, hq2⟩ : ∃ bq, (ne == 0) = bq ∧ (le == 5) = bq := by
          rcases HRES.out.both with ⟨e1, e2⟩ | ⟨e1, e2⟩
          · exact ⟨true, by rw [hne, e1]; rfl, by rw [hle, e2]; rfl⟩
          · exact ⟨false, by rw [hne, e1]; rfl, by rw [hle, e2]; rfl⟩
        rw [← hne, ← hle]
        clear hne hle
        go_upto_region 24 with (fail)
        obtain ⟨Q0, hQ0⟩ : ∃ zz9, zz9 = (grow Z g8) := ⟨_, rfl⟩
        have eQ0 : Ext Z Q0 := by rw [hQ0]; exact (by repeat (first | exact Below.refl _ _ | refine Ext.al ?_ _ | refine Ext.dr ?_ | refine Ext.drN ?_ _ | refine Ext.gr ?_ _ | refine Ext.set ?_ (by simp) _ | (refine Ext.trans' ?_ (by assumption))))
        have eQ0c : Ext (grow Z g8) Q0 := by rw [hQ0]; exact (by repeat (first | exact Below.refl _ _ | refine Ext.al ?_ _ | refine Ext.dr ?_ | refine Ext.drN ?_ _ | refine Ext.gr ?_ _ | refine Ext.set ?_ (by simp) _ | (refine Ext.trans' ?_ (by assumption))))
        replace k9 := cell_ext eQ0 k9
        replace x2 := cell_ext eQ0 x2
        replace HSZ := Lib.hid (HSZ.out.ext eQ0)
        replace HLZ := Lib.hid (HLZ.out.ext eQ0)
        replace HXI := Lib.hid (HXI.out.ext eQ0)
        replace HTI := Lib.hid (HTI.out.ext eQ0)
        replace HNI := Lib.hid (HNI.out.ext eQ0)
        replace HU := Lib.hid (HU.out.ext eQ0c)
        replace HVI := Lib.hid (HVI.out.ext eQ0c)
        replace HRZ := Lib.hid (HRZ.out.trans' eQ0)
        rw [← hQ0]
        replace hz9 := World.block_lt_of_cell? _ _ k9
        replace zx9 := World.block_lt_of_cell? _ _ x2
        clear hQ0 eQ0 eQ0c
        obtain ⟨Q, hQ⟩ : ∃ Q, Q = Q0 := ⟨_, rfl⟩
        subst hQ
        go_wp2_with fail
        go_loopw [30] (fun iv W => ∃ k : Nat, k ≤ un ∧ iv = .int .i64 k ∧ Ext Q W) (fun iv _ => un - (intOf iv).toNat)
        case atStart => exact ⟨0, by omega, rfl, Below.refl _ _⟩
        case round =>
          obtain ⟨k, hk, rfl, hE⟩ := hrel
          by_cases hlt : k < un
          · have hki : (k : Int) < (un : Int) := by omega
            obtain ⟨vb, vo, rfl, hvz, hvc⟩ := HVI.out.at_all (by rw [HVN.out]; omega)
            have cV := hvc wr hE k (by rw [HVN.out]; exact hlt)
            obtain ⟨x, hx⟩ : ∃ x, x = gt (nextL KX T) k := ⟨_, rfl⟩
            have hxm : x ∈ nextL KX T := by rw [hx, ← gt_get (by rw [HVN.out]; exact hlt)]; exact List.getElem_mem _
            rw [← hx] at cV
            obtain ⟨wd, rfl, hwn, hwm⟩ := HRES.out.nx x hxm
            have hu0 : 0 < (nextL ks s).length := List.length_pos_of_mem hwm
            obtain ⟨ub, uo, rfl, huz, huc⟩ := HU.out.at_all hu0
            obtain ⟨mb, mo, em, hmz0, hmc0⟩ := HNI.out.at_all (by rw [HNK.out.nl]; omega)
            cases em
            have cN := hmc0 wr hE wd (by rw [HNK.out.nl]; exact hwn)
            obtain ⟨y, hy⟩ : ∃ y, y = gt NM wd := ⟨_, rfl⟩
            rw [← hy, Nat.zero_add] at cN
            rw [← hy] at hwm
            have HYM := Lib.hid hwm
            have HUC := Lib.hid huc
            have HE1 := Lib.hid hE
            have x5 := cell_ext hE x2
            have HXIr := Lib.hid (HXI.out.ext hE)
            have HVc := Lib.hid cV
            have HNc := Lib.hid cN
            have HXc := Lib.hid x5
            have hwdi : (wd : Int) < (ks.length : Int) := by omega
            have cw := fun W hs => isWindow_any KX wd (.slice (some ⟨q, 0, none⟩) ks.length qc) W hs
            rw [inR_iff.2 (by rw [HNK.out.kl]; omega)] at cw
            have CW := Lib.hid cw
            clear hvc hx hxm huc hmc0 hy hE hwm cw cV cN x5 hu0
            obtain ⟨Yr, hYr⟩ : ∃ Yr, Yr = wr := ⟨_, rfl⟩
            subst hYr
            go_wp2_with fail
            go_loopw [31, 32] (fun fv iv W => ∃ (i : Nat) (fb : Bool), i ≤ un ∧ iv = .int .i64 i ∧ fv = .bool fb ∧ (fb = true ↔ y ∈ (nextL ks s).take i) ∧ Ext Yr W) (fun _ iv _ => un - (intOf iv).toNat)
            case atStart => exact ⟨0, false, by omega, rfl, rfl, by simp, Below.refl _ _⟩
            case round =>
              obtain ⟨i, fb, hi, rfl, rfl, hfb, hE⟩ := hrel
              by_cases hil : i < un
              · have hii : (i : Int) < (un : Int) := by omega
                have cU := HUC.out wr (HE1.out.trans' hE) i (by rw [← HUN.out]; exact hil)
                obtain ⟨z, hz⟩ : ∃ z, z = gt (nextL ks s) i := ⟨_, rfl⟩
                rw [← hz] at cU
                obtain ⟨bb, hbb⟩ : ∃ bb, bb = decide (z = y) := ⟨_, rfl⟩
                have ez1 : (z == y) = bb := by rw [hbb]; by_cases e : z = y <;> simp [e]
                have HRL := Lib.hid (mem_take_one (l := nextL ks s) (i := i) (by rw [← HUN.out]; exact hil) y)
                have HBB := Lib.hid (show bb = true ↔ y = gt (nextL ks s) i by rw [hbb, ← hz, decide_eq_true_iff]; exact eq_comm)
                have HFB := Lib.hid hfb
                have cV := cell_ext hE HVc.out
                have cN := cell_ext hE HNc.out
                have x6 := cell_ext hE HXc.out
                have HXIi := Lib.hid (HXIr.out.ext hE)
                have hzU := World.block_lt_of_cell? _ _ cU
                have hzV := World.block_lt_of_cell? _ _ cV
                have hzN := World.block_lt_of_cell? _ _ cN
                have hzX := World.block_lt_of_cell? _ _ x6
                simp only at hzU hzV hzN hzX
                have HEi := Lib.hid hE
                obtain ⟨Z, hZ⟩ : ∃ Z, Z = wr := ⟨_, rfl⟩
                subst hZ
                clear hfb hE hz hbb
                cases fb
                · go_upto_region 30 with (fail)
                  refine wp_region_roveG_tail rfl rfl (by kernel_rfl) (Z.heap.size) (Nat.le_refl _)
                    [sqV (.bool false),
                     sqV (.bool false),
                     sqV (.agg #[.slice (some ⟨q, 0, none⟩) ks.length qc]),
                     sqV (.slice (some ⟨vb, vo, none⟩) un c4),
                     sqV (.int .i64 k),
                     sqV (.pointer (some ⟨vb, vo + k, none⟩)),
                     sqV (.int .i64 wd),
                     sqV (.bool true),
                     sqV (.bool true),
                     sqV (.slice (some ⟨ub, uo, none⟩) un c3),
                     sqV (.int .i64 i),
                     sqV (.pointer (some ⟨ub, uo + i, none⟩)),
                     sqV (.int .i64 z),
                     sqV (.slice (some ⟨m, 0, none⟩) ks.length mc),
                     sqV (.slice (some ⟨vb, vo, none⟩) un c4),
                     sqV (.int .i64 k),
                     sqV (.pointer (some ⟨vb, vo + k, none⟩)),
                     sqV (.int .i64 wd),
                     sqV (.pointer (some ⟨m, wd, none⟩)),
                     sqV (.int .i64 y),
                     sqV (.bool bb),
                     sqV (.bool bb),
                     sqV (.bool bb)]
                    [true, true, true, true, true, true, true, true, true, true, true, true, true, true, true, true, true, true, true, true, true, true, true] [false, false, false, false, false, false, false, false, false, false, false, false, false, false, false, false, false, false, false, false, false, false, false] [true, true, true, true, true, true, true, true, true, true, true, true, true, true, true, true, true, true, true, true, true, true, true] [true, true, true, true, true, true, true, true, true, true, true, true, true, true, true, true, true, true, true, true, true, true, true] [true, true, true, true, true, true, true, true, true, true, true, true, true, true, true, true, true, true, true, true, true, true, true] [some false, some false, none, none, none, none, none, none, some true]
                    (by kernel_rfl) (by kernel_rfl) (by decide +kernel) ⟨fun _ _ _ h => h, ⟨fun _ _ _ h => h, ⟨fun _ _ _ h => h, trivial⟩⟩⟩ (by decide +kernel) (by decide +kernel) (by decide +kernel) rfl ⟨rfl, rfl, rfl⟩ ⟨?s0, ?s1, ?s2, ?s3, ?s4, ?s5, ?s6, ?s7, ?s8, ?s9, ?s10, ?s11, ?s12, ?s13, ?s14, ?s15, ?s16, ?s17, ?s18, ?s19, ?s20, ?s21, ?s22, trivial⟩ [some 234, some 235, some 236, some 237, some 238, some 239, some 240, some 241, some 242, some 243, some 244, some 245, some 246, some 247, some 248, some 249, some 250, some 251, some 252, some 253, some 254, some 255, some 256] rfl rfl ?send
                  case s0 =>
                    intro val ρ W hE hz hd hu hA hx
                    have o0 : ρ (.tmp 31) = .bool false := hA.old 31 (by decide)
                    clear hd hu
                    exact runq_val (W' := W) (by simp [execOp, o0, go_sem]) (Below.refl _ _) rfl
                  case s1 =>
                    intro val ρ W hE hz hd hu hA hx
                    have d0 : ρ (.tmp 234) = .bool false := (hA.dep 0 (by decide) 234 rfl).trans (hd 0 (by decide))
                    clear hd hu
                    exact runq_val (W' := W) (by simp [execOp, d0, go_sem]) (Below.refl _ _) rfl
                  case s2 =>
                    intro val ρ W hE hz hd hu hA hx
                    have o0 : ρ (.tmp 8) = .pointer (some ⟨h, 0, none⟩) := hA.old 8 (by decide)
                    have f_x6 := cell_below hE (by simp only; omega) x6
                    clear hd hu
                    exact runq_val (W' := W) (by simp [execOp, o0, f_x6, go_sem]) (Below.refl _ _) rfl
                  case s3 =>
                    intro val ρ W hE hz hd hu hA hx
                    have o0 : ρ (.tmp 24) = .slice (some ⟨vb, vo, none⟩) un c4 := hA.old 24 (by decide)
                    clear hd hu
                    exact runq_val (W' := W) (by simp [execOp, o0, go_sem]) (Below.refl _ _) rfl
                  case s4 =>
                    intro val ρ W hE hz hd hu hA hx
                    have o0 : ρ (.tmp 30) = .int .i64 k := hA.old 30 (by decide)
                    clear hd hu
                    exact runq_val (W' := W) (by simp [execOp, o0, go_sem]) (Below.refl _ _) rfl
                  case s5 =>
                    intro val ρ W hE hz hd hu hA hx
                    have d3 : ρ (.tmp 237) = .slice (some ⟨vb, vo, none⟩) un c4 := (hA.dep 3 (by decide) 237 rfl).trans (hd 3 (by decide))
                    have d4 : ρ (.tmp 238) = .int .i64 k := (hA.dep 4 (by decide) 238 rfl).trans (hd 4 (by decide))
                    clear hd hu
                    exact runq_val (W' := W) (by simp [execOp, d3, d4, hki, go_sem]) (Below.refl _ _) rfl
                  case s6 =>
                    intro val ρ W hE hz hd hu hA hx
                    have d5 : ρ (.tmp 239) = .pointer (some ⟨vb, vo + k, none⟩) := (hA.dep 5 (by decide) 239 rfl).trans (hd 5 (by decide))
                    have f_cV := cell_below hE (by simp only; omega) cV
                    clear hd hu
                    exact runq_val (W' := W) (by simp [execOp, d5, f_cV, go_sem]) (Below.refl _ _) rfl
                  case s7 =>
                    intro val ρ W hE hz hd hu hA hx
                    have d2 : ρ (.tmp 236) = .agg #[.slice (some ⟨q, 0, none⟩) ks.length qc] := (hA.dep 2 (by decide) 236 rfl).trans (hd 2 (by decide))
                    have d6 : ρ (.tmp 240) = .int .i64 wd := (hA.dep 6 (by decide) 240 rfl).trans (hd 6 (by decide))
                    clear hd hu
                    refine runq_call 51 _ _ rfl #[.agg #[.slice (some ⟨q, 0, none⟩) ks.length qc], .int .i64 wd] (hA.func _) (by simp [d2, d6]) (fun args W => Try.call51 args W) ((CW.out W (HXIi.out.ext hE)).mono ?_)
                    rintro e w' ⟨rfl, hb⟩
                    exact ⟨_, rfl, hb, rfl⟩
                  case s8 =>
                    intro val ρ W hE hz hd hu hA hx
                    have d7 : ρ (.tmp 241) = .bool true := (hA.dep 7 (by decide) 241 rfl).trans (hd 7 (by decide))
                    clear hd hu
                    exact runq_val (W' := W) (by simp [execOp, d7, go_sem]) (Below.refl _ _) rfl
                  case s9 =>
                    intro val ρ W hE hz hd hu hA hx
                    have o0 : ρ (.tmp 22) = .slice (some ⟨ub, uo, none⟩) un c3 := hA.old 22 (by decide)
                    clear hd hu
                    exact runq_val (W' := W) (by simp [execOp, o0, go_sem]) (Below.refl _ _) rfl
                  case s10 =>
                    intro val ρ W hE hz hd hu hA hx
                    have o0 : ρ (.tmp 32) = .int .i64 i := hA.old 32 (by decide)
                    clear hd hu
                    exact runq_val (W' := W) (by simp [execOp, o0, go_sem]) (Below.refl _ _) rfl
                  case s11 =>
                    intro val ρ W hE hz hd hu hA hx
                    have d9 : ρ (.tmp 243) = .slice (some ⟨ub, uo, none⟩) un c3 := (hA.dep 9 (by decide) 243 rfl).trans (hd 9 (by decide))
                    have d10 : ρ (.tmp 244) = .int .i64 i := (hA.dep 10 (by decide) 244 rfl).trans (hd 10 (by decide))
                    clear hd hu
                    exact runq_val (W' := W) (by simp [execOp, d9, d10, hii, go_sem]) (Below.refl _ _) rfl
                  case s12 =>
                    intro val ρ W hE hz hd hu hA hx
                    have d11 : ρ (.tmp 245) = .pointer (some ⟨ub, uo + i, none⟩) := (hA.dep 11 (by decide) 245 rfl).trans (hd 11 (by decide))
                    have f_cU := cell_below hE (by simp only; omega) cU
                    clear hd hu
                    exact runq_val (W' := W) (by simp [execOp, d11, f_cU, go_sem]) (Below.refl _ _) rfl
                  case s13 =>
                    intro val ρ W hE hz hd hu hA hx
                    have o0 : ρ (.tmp 10) = .slice (some ⟨m, 0, none⟩) ks.length mc := hA.old 10 (by decide)
                    clear hd hu
                    exact runq_val (W' := W) (by simp [execOp, o0, go_sem]) (Below.refl _ _) rfl
                  case s14 =>
                    intro val ρ W hE hz hd hu hA hx
                    have o0 : ρ (.tmp 24) = .slice (some ⟨vb, vo, none⟩) un c4 := hA.old 24 (by decide)
                    clear hd hu
                    exact runq_val (W' := W) (by simp [execOp, o0, go_sem]) (Below.refl _ _) rfl
                  case s15 =>
                    intro val ρ W hE hz hd hu hA hx
                    have o0 : ρ (.tmp 30) = .int .i64 k := hA.old 30 (by decide)
                    clear hd hu
                    exact runq_val (W' := W) (by simp [execOp, o0, go_sem]) (Below.refl _ _) rfl
                  case s16 =>
                    intro val ρ W hE hz hd hu hA hx
                    have d14 : ρ (.tmp 248) = .slice (some ⟨vb, vo, none⟩) un c4 := (hA.dep 14 (by decide) 248 rfl).trans (hd 14 (by decide))
                    have d15 : ρ (.tmp 249) = .int .i64 k := (hA.dep 15 (by decide) 249 rfl).trans (hd 15 (by decide))
                    clear hd hu
                    exact runq_val (W' := W) (by simp [execOp, d14, d15, hki, go_sem]) (Below.refl _ _) rfl
                  case s17 =>
                    intro val ρ W hE hz hd hu hA hx
                    have d16 : ρ (.tmp 250) = .pointer (some ⟨vb, vo + k, none⟩) := (hA.dep 16 (by decide) 250 rfl).trans (hd 16 (by decide))
                    have f_cV := cell_below hE (by simp only; omega) cV
                    clear hd hu
                    exact runq_val (W' := W) (by simp [execOp, d16, f_cV, go_sem]) (Below.refl _ _) rfl
                  case s18 =>
                    intro val ρ W hE hz hd hu hA hx
                    have d13 : ρ (.tmp 247) = .slice (some ⟨m, 0, none⟩) ks.length mc := (hA.dep 13 (by decide) 247 rfl).trans (hd 13 (by decide))
                    have d17 : ρ (.tmp 251) = .int .i64 wd := (hA.dep 17 (by decide) 251 rfl).trans (hd 17 (by decide))
                    clear hd hu
                    exact runq_val (W' := W) (by simp [execOp, d13, d17, hwdi, go_sem]) (Below.refl _ _) rfl
                  case s19 =>
                    intro val ρ W hE hz hd hu hA hx
                    have d18 : ρ (.tmp 252) = .pointer (some ⟨m, wd, none⟩) := (hA.dep 18 (by decide) 252 rfl).trans (hd 18 (by decide))
                    have f_cN := cell_below hE (by simp only; omega) cN
                    clear hd hu
                    exact runq_val (W' := W) (by simp [execOp, d18, f_cN, go_sem]) (Below.refl _ _) rfl
                  case s20 =>
                    intro val ρ W hE hz hd hu hA hx
                    have d12 : ρ (.tmp 246) = .int .i64 z := (hA.dep 12 (by decide) 246 rfl).trans (hd 12 (by decide))
                    have d19 : ρ (.tmp 253) = .int .i64 y := (hA.dep 19 (by decide) 253 rfl).trans (hd 19 (by decide))
                    clear hd hu
                    exact runq_val (W' := W) (by simp [execOp, d12, d19, ez1, go_sem]) (Below.refl _ _) rfl
                  case s21 =>
                    intro val ρ W hE hz hd hu hA hx
                    have d8 : ρ (.tmp 242) = .bool true := (hA.dep 8 (by decide) 242 rfl).trans (hd 8 (by decide))
                    have d20 : ρ (.tmp 254) = .bool bb := (hA.dep 20 (by decide) 254 rfl).trans (hd 20 (by decide))
                    clear hd hu
                    exact runq_val (W' := W) (by simp [execOp, hA.const, d8, d20, go_sem]) (Below.refl _ _) rfl
                  case s22 =>
                    intro val ρ W hE hz hd hu hA hx
                    have d1 : ρ (.tmp 235) = .bool false := (hA.dep 1 (by decide) 235 rfl).trans (hd 1 (by decide))
                    have d21 : ρ (.tmp 255) = .bool bb := (hA.dep 21 (by decide) 255 rfl).trans (hd 21 (by decide))
                    clear hd hu
                    exact runq_val (W' := W) (by simp [execOp, hA.const, d1, d21, go_sem]) (Below.refl _ _) rfl
                  case send =>
                    intro val WW hE hzz hv
                    obtain ⟨-, -, -, -, -, -, -, -, -, -, -, -, -, -, -, -, -, -, -, -, -, -, q22, -⟩ := hv
                    have q22' : val 22 = .bool bb := q22
                    simp only [putD, q22']
                    go_frame
                    have HEW := Lib.hid (HEi.out.trans' hE)
                    clear q22 q22' hE hzz ez1 cU cV cN x6 hzU hzV hzN hzX
                    go_wp2_with fail
                    go_roundw
                    case rel =>
                      refine ⟨i + 1, bb, by omega, by go_num, rfl, ?_, HEW.out⟩
                      rw [HRL.out, HBB.out]
                      have h0 := HFB.out
                      exact ⟨.inr, fun h => h.elim (fun h => absurd (h0.2 h) (by simp)) id⟩
                    case measure => simp [intOf]; omega
                · go_upto_region 30 with (fail)
                  refine wp_region_roveG_tail rfl rfl (by kernel_rfl) (Z.heap.size) (Nat.le_refl _)
                    [sqV (.bool true),
                     sqV (.bool true),
                     sqV undef,
                     sqV undef,
                     sqV undef,
                     sqV undef,
                     sqV undef,
                     sqV undef,
                     sqV undef,
                     sqV undef,
                     sqV undef,
                     sqV undef,
                     sqV undef,
                     sqV undef,
                     sqV undef,
                     sqV undef,
                     sqV undef,
                     sqV undef,
                     sqV undef,
                     sqV undef,
                     sqV undef,
                     sqV undef,
                     sqV (.bool true)]
                    [true, true, true, true, true, true, true, true, true, true, true, true, true, true, true, true, true, true, true, true, true, true, true] [false, false, false, false, false, false, false, false, false, false, false, false, false, false, false, false, false, false, false, false, false, false, false] [true, true, true, true, true, true, true, true, true, true, true, true, true, true, true, true, true, true, true, true, true, true, true] [true, true, true, true, true, true, true, true, true, true, true, true, true, true, true, true, true, true, true, true, true, true, true] [true, true, false, false, false, false, false, false, false, false, false, false, false, false, false, false, false, false, false, false, false, false, true] [some true, some true, none, none, none, none, none, none, none, none, none, none, none, none, none, none, none, none, none, none, none, none, some true]
                    (by kernel_rfl) (by kernel_rfl) (by decide +kernel) ⟨fun _ _ _ h => h, ⟨fun _ _ _ h => h, ⟨fun _ _ _ h => h, trivial⟩⟩⟩ (by decide +kernel) (by decide +kernel) (by decide +kernel) rfl ⟨rfl, rfl, rfl⟩ ⟨?s0, ?s1, ?s2, ?s3, ?s4, ?s5, ?s6, ?s7, ?s8, ?s9, ?s10, ?s11, ?s12, ?s13, ?s14, ?s15, ?s16, ?s17, ?s18, ?s19, ?s20, ?s21, ?s22, trivial⟩ [some 234, some 235, some 236, some 237, some 238, some 239, some 240, some 241, some 242, some 243, some 244, some 245, some 246, some 247, some 248, some 249, some 250, some 251, some 252, some 253, some 254, some 255, some 256] rfl rfl ?send
                  case s0 =>
                    intro val ρ W hE hz hd hu hA hx
                    have o0 : ρ (.tmp 31) = .bool true := hA.old 31 (by decide)
                    clear hd hu
                    exact runq_val (W' := W) (by simp [execOp, o0, go_sem]) (Below.refl _ _) rfl
                  case s1 =>
                    intro val ρ W hE hz hd hu hA hx
                    have d0 : ρ (.tmp 234) = .bool true := (hA.dep 0 (by decide) 234 rfl).trans (hd 0 (by decide))
                    clear hd hu
                    exact runq_val (W' := W) (by simp [execOp, d0, go_sem]) (Below.refl _ _) rfl
                  case s2 => exact ⟨fun _ _ => rfl, fun _ _ _ h => h⟩
                  case s3 => exact ⟨fun _ _ => rfl, fun _ _ _ h => h⟩
                  case s4 => exact ⟨fun _ _ => rfl, fun _ _ _ h => h⟩
                  case s5 => exact ⟨fun _ _ => rfl, fun _ _ _ h => h⟩
                  case s6 => exact ⟨fun _ _ => rfl, fun _ _ _ h => h⟩
                  case s7 => exact ⟨fun _ _ => rfl, fun _ _ _ h => h⟩
                  case s8 => exact ⟨fun _ _ => rfl, fun _ _ _ h => h⟩
                  case s9 => exact ⟨fun _ _ => rfl, fun _ _ _ h => h⟩
                  case s10 => exact ⟨fun _ _ => rfl, fun _ _ _ h => h⟩
                  case s11 => exact ⟨fun _ _ => rfl, fun _ _ _ h => h⟩
                  case s12 => exact ⟨fun _ _ => rfl, fun _ _ _ h => h⟩
                  case s13 => exact ⟨fun _ _ => rfl, fun _ _ _ h => h⟩
                  case s14 => exact ⟨fun _ _ => rfl, fun _ _ _ h => h⟩
                  case s15 => exact ⟨fun _ _ => rfl, fun _ _ _ h => h⟩
                  case s16 => exact ⟨fun _ _ => rfl, fun _ _ _ h => h⟩
                  case s17 => exact ⟨fun _ _ => rfl, fun _ _ _ h => h⟩
                  case s18 => exact ⟨fun _ _ => rfl, fun _ _ _ h => h⟩
                  case s19 => exact ⟨fun _ _ => rfl, fun _ _ _ h => h⟩
                  case s20 => exact ⟨fun _ _ => rfl, fun _ _ _ h => h⟩
                  case s21 => exact ⟨fun _ _ => rfl, fun _ _ _ h => h⟩
                  case s22 =>
                    intro val ρ W hE hz hd hu hA hx
                    have d1 : ρ (.tmp 235) = .bool true := (hA.dep 1 (by decide) 235 rfl).trans (hd 1 (by decide))
                    clear hd hu
                    exact runq_val (W' := W) (by simp [execOp, hA.const, d1, go_sem]) (Below.refl _ _) rfl
                  case send =>
                    intro val WW hE hzz hv
                    obtain ⟨-, -, -, -, -, -, -, -, -, -, -, -, -, -, -, -, -, -, -, -, -, -, q22, -⟩ := hv
                    have q22' : val 22 = .bool true := q22
                    simp only [putD, q22']
                    go_frame
                    have HEW := Lib.hid (HEi.out.trans' hE)
                    clear q22 q22' hE hzz ez1 cU cV cN x6 hzU hzV hzN hzX
                    go_wp2_with fail
                    go_roundw
                    case rel =>
                      refine ⟨i + 1, true, by omega, by go_num, rfl, ?_, HEW.out⟩
                      rw [HRL.out]
                      have h0 := HFB.out
                      exact ⟨fun _ => .inl (h0.1 rfl), fun _ => rfl⟩
                    case measure => simp [intOf]; omega
              · have hii : ¬ ((i : Int) < (un : Int)) := by omega
                have hft : fb = true := hfb.2 (by rw [List.take_of_length_le (by rw [← HUN.out]; omega)]; exact HYM.out)
                subst hft
                have HEi := Lib.hid hE
                clear hfb hE
                go_wp2_with fail
                go_roundw
                case rel => exact ⟨k + 1, by omega, by go_num, HE1.out.trans' HEi.out⟩
                case measure => simp [intOf]; omega
          · have hki : ¬ ((k : Int) < (un : Int)) := by omega
            have HRQ := Lib.hid (HRZ.out.trans' hE)
            obtain ⟨Z, hZ⟩ : ∃ Z, Z = wr := ⟨_, rfl⟩
            subst hZ
            clear hE



            go_wp2_with fail
            refine callW (W0 := Z) (g := ⟨Z, Below.refl _ _⟩) (by exact (by repeat (first | exact Below.refl _ _ | refine Ext.al ?_ _ | refine Ext.dr ?_ | refine Ext.drN ?_ _ | refine Ext.gr ?_ _ | refine Ext.set ?_ (by simp) _ | (refine Ext.trans' ?_ (by assumption))))) (works_any _) fun g1 hgr => ?_
            clear hgr
            go_wp2_with fail
            go_ret
            exact ⟨rfl, HRQ.out.trans' (grow_below Z g1)⟩

end Go.Proofs.Ytndgaklcnhoddaa
