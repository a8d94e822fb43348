/-
  The statement TurnCircled holds: a circle can begin with any of its visits; repeated twice it is one; what it visits from the empty state on is safe, as is the state after it; no given circle is shorter than the one that is returned; for every hall, beginning and list that are handed in. No condition.
-/
import Derived.Test.YtndgaklcnhoddaaCircledM
import Derived.Test.YtndgaklcnhoddaaRa
import Derived.Test.YtndgaklcnhoddaaRefN
import Derived.Test.YtndgaklcnhoddaaRoveG
namespace Go.Proofs.Ytndgaklcnhoddaa
open Go.RowKit Go.Shelf
theorem ints_rows {W : World} {b off n cap : Nat} {l : List Int} (h : IsInts W .i64 (.slice (some ⟨b, off, none⟩) n cap) l) : RowsAt W 1 b off (l.map iRow) := by
  obtain ⟨sa, cp, e, _, _, hc⟩ := h
  cases e
  rcases hc with hc | ⟨b', o', e, hc⟩
  · rw [show l.map iRow = [] from hc]; intro i hi; simp at hi
  · cases e; exact hc
def GivR (ks : List Int) (n : Nat) (W : World) (v : Value) : Prop := ∃ row, IsInts W .i64 v row ∧ WinL ks row ∧ row.length = n
theorem GivR.ext {ks : List Int} {n : Nat} {W W' : World} {v : Value} (e : Ext W W') (h : GivR ks n W v) : GivR ks n W' v := by
  obtain ⟨row, h1, h2⟩ := h
  exact ⟨row, h1.ext e, h2⟩
def GivV (ks : List Int) (n : Nat) (v : Value) : Prop := ∃ row, WinL ks row ∧ row.length = n ∧ v = .int .i64 (circErr ks row)
def PlyP (t : List Int) (n : Nat) (W : World) (v : Value) : Prop := ∃ r, v = .tuple #[r, .int .i64 n, .int .i64 0] ∧ IsInts W .i64 r t
theorem PlyP.ext {t : List Int} {n : Nat} {W W' : World} {v : Value} (e : Ext W W') (h : PlyP t n W v) : PlyP t n W' v := by
  obtain ⟨r, h1, h2⟩ := h
  exact ⟨r, h1, h2.ext e⟩
set_option maxRecDepth 100000 in
set_option maxHeartbeats 8000000 in
theorem turnCircled_any (ks : List Int) (kv : Value) (mm : Int) (bv : Value) (bs : List Int) (w : World) (hv : IsInts w .i64 kv ks) (hwm : (Lit.int .u8 mm).wf = true) (hb : IsInts w .u8 bv bs) (hw8 : ∀ x ∈ bs, (Lit.int .u8 x).wf = true) :
    Calls Try.prog 12 #[.agg #[kv], .int .u8 mm, bv] w fun e W => e = .returned (.bool true) ∧ Ext w W := by
  obtain ⟨sa, cap, rfl, h1, h2, -⟩ := hv.spec
  obtain ⟨ba, bcap, rfl, h3, h4, -⟩ := hb.spec
  have HV := Lib.hid hv
  have HB0 := Lib.hid hb
  have H8 := Lib.hid (u8s hw8)
  have hmm : 0 ≤ mm ∧ mm ≤ 255 := by have := bounds_u8 hwm; omega
  clear hv hb hw8 hwm
  go_enter Try.func12, Try.ntmps12
  go_upto_region 1 with (fail)
  obtain ⟨W0, hW0⟩ : ∃ W0, W0 = w.alloc (.cells #[.slice sa ks.length cap] 24) := ⟨_, rfl⟩
  have hE : Ext w W0 := by rw [hW0]; exact (by repeat (first | exact Below.refl _ _ | refine Ext.al ?_ _ | refine Ext.dr ?_ | refine Ext.drN ?_ _ | refine Ext.gr ?_ _ | refine Ext.set ?_ (by simp) _ | (refine Ext.trans' ?_ (by assumption))))
  have k0 : W0.cell? ⟨w.heap.size, 0, none⟩ = some (.slice sa ks.length cap) := by rw [hW0]; simp [go_sem]
  have hz : w.heap.size < W0.heap.size := World.block_lt_of_cell? _ _ k0
  have HS := Lib.hid (HV.out.ext hE)
  have HW := Lib.hid hE
  rw [← hW0]
  clear hW0 HV
  have HB := Lib.hid (HB0.out.ext hE)
  clear hE HB0



  go_wp2_with fail
  refine callW (W0 := W0) (g := ⟨W0, Below.refl _ _⟩) (by exact (by repeat (first | exact Below.refl _ _ | refine Ext.al ?_ _ | refine Ext.dr ?_ | refine Ext.drN ?_ _ | refine Ext.gr ?_ _ | refine Ext.set ?_ (by simp) _ | (refine Ext.trans' ?_ (by assumption))))) (fineL_any ks _ _ (HS.out.ext (by exact (by repeat (first | exact Below.refl _ _ | refine Ext.al ?_ _ | refine Ext.dr ?_ | refine Ext.drN ?_ _ | refine Ext.gr ?_ _ | refine Ext.set ?_ (by simp) _ | (refine Ext.trans' ?_ (by assumption))))))) fun g1 hgr => ?_
  clear hgr
  cases hfn : fineB ks
  · clear hfn

    go_wp2_with fail
    refine callW (W0 := W0) (g := g1) (by exact (by repeat (first | exact Below.refl _ _ | refine Ext.al ?_ _ | refine Ext.dr ?_ | refine Ext.drN ?_ _ | refine Ext.gr ?_ _ | refine Ext.set ?_ (by simp) _ | (refine Ext.trans' ?_ (by assumption))))) (works_any _) fun g2 hgr => ?_
    clear hgr
    go_wp2_with fail
    go_ret
    exact ⟨rfl, HW.out.trans' (grow_below W0 g2)⟩

  have V := Lib.hid (tval_of (of_decide_eq_true hfn))
  have n1 := V.out.n1
  have n5 := V.out.n5
  clear hfn
  by_cases hr60 : 60 < bs.length
  · have hd6 : decide ((60 : Int) < (bs.length : Int)) = true := decide_eq_true (by omega)
    clear hr60

    go_wp2_with fail
    refine callW (W0 := W0) (g := g1) (by exact (by repeat (first | exact Below.refl _ _ | refine Ext.al ?_ _ | refine Ext.dr ?_ | refine Ext.drN ?_ _ | refine Ext.gr ?_ _ | refine Ext.set ?_ (by simp) _ | (refine Ext.trans' ?_ (by assumption))))) (works_any _) fun g3 hgr => ?_
    clear hgr
    go_wp2_with fail
    go_ret
    exact ⟨rfl, HW.out.trans' (grow_below W0 g3)⟩

  have hd6 : decide ((60 : Int) < (bs.length : Int)) = false := decide_eq_false (by omega)
  have hb60 : bs.length ≤ 60 := by omega
  clear hr60
  go_wp2_with fail
  refine callWR (W0 := W0) (g := g1) (by exact (by repeat (first | exact Below.refl _ _ | refine Ext.al ?_ _ | refine Ext.dr ?_ | refine Ext.drN ?_ _ | refine Ext.gr ?_ _ | refine Ext.set ?_ (by simp) _ | (refine Ext.trans' ?_ (by assumption))))) (circleT_any ks _ _ (HS.out.ext (by exact (by repeat (first | exact Below.refl _ _ | refine Ext.al ?_ _ | refine Ext.dr ?_ | refine Ext.drN ?_ _ | refine Ext.gr ?_ _ | refine Ext.set ?_ (by simp) _ | (refine Ext.trans' ?_ (by assumption))))))) (fun _ _ ⟨_, _, _, r, _⟩ => r) fun _ g4 hgr hr => ?_
  obtain ⟨x, l, rfl, -, hI, hcr⟩ := hr
  clear hgr
  obtain ⟨a1, c1, rfl, hlc, -⟩ := hI.spec
  have HI1 := Lib.hid hI
  have HCR := Lib.hid hcr
  clear hI hcr

  go_upto_region 4 with (fail)
  obtain ⟨U, hU⟩ : ∃ zz9, zz9 = (grow W0 g4) := ⟨_, rfl⟩
  have eU : Ext W0 U := by rw [hU]; exact (by repeat (first | exact Below.refl _ _ | refine Ext.al ?_ _ | refine Ext.dr ?_ | refine Ext.drN ?_ _ | refine Ext.gr ?_ _ | refine Ext.set ?_ (by simp) _ | (refine Ext.trans' ?_ (by assumption))))
  have eUc : Ext (grow W0 g4) U := by rw [hU]; exact (by repeat (first | exact Below.refl _ _ | refine Ext.al ?_ _ | refine Ext.dr ?_ | refine Ext.drN ?_ _ | refine Ext.gr ?_ _ | refine Ext.set ?_ (by simp) _ | (refine Ext.trans' ?_ (by assumption))))
  replace k0 := cell_ext eU k0
  replace HS := Lib.hid (HS.out.ext eU)
  replace HB := Lib.hid (HB.out.ext eU)
  replace HI1 := Lib.hid (HI1.out.ext eUc)
  replace HW := Lib.hid (HW.out.trans' eU)
  rw [← hU]
  replace hz := World.block_lt_of_cell? _ _ k0
  clear hU eU eUc
  simp only at hz
  obtain ⟨Y, hY⟩ : ∃ Y, Y = U := ⟨_, rfl⟩
  subst hY
  refine wp_region_rove (Y.heap.size) (Nat.le_refl _)
    [sqV (.agg #[.slice sa ks.length cap]),
     sqV (.agg #[.slice sa ks.length cap]),
     sqV (.slice ba bs.length bcap),
     sqW (fun v W => GivR ks bs.length W v) (fun _ _ _ h e => GivR.ext e h),
     sqW (fun v W => GivV ks bs.length v) (fun _ _ _ h _ => h),
     sqW (fun v W => GivV ks bs.length v) (fun _ _ _ h _ => h)]
    [true, true, true, false, false, false] [false, false, false, false, false, false] [true, true, true, true, true, true] [true, true, true, true, true, true]
    (by kernel_rfl) (by kernel_rfl) (by decide +kernel) (by decide +kernel) (by decide +kernel) rfl ⟨rfl, rfl⟩ ⟨?s0, ?s1, ?s2, ?s3, ?s4, ?s5, trivial⟩ [some 28, some 29, some 30, some 31, some 32, some 9] rfl rfl ?send
  case s0 =>
    intro val ρ W hE hz hd hA hx
    have o0 : ρ (.tmp 3) = .pointer (some ⟨w.heap.size, 0, none⟩) := hA.old 3 (by decide)
    have f_k0 := cell_below hE (by simp only; omega) k0
    clear hd
    exact runq_val (W' := W) (by simp [execOp, o0, f_k0, go_sem]) (Below.refl _ _) rfl
  case s1 =>
    intro val ρ W hE hz hd hA hx
    have o0 : ρ (.tmp 3) = .pointer (some ⟨w.heap.size, 0, none⟩) := hA.old 3 (by decide)
    have f_k0 := cell_below hE (by simp only; omega) k0
    clear hd
    exact runq_val (W' := W) (by simp [execOp, o0, f_k0, go_sem]) (Below.refl _ _) rfl
  case s2 =>
    intro val ρ W hE hz hd hA hx
    have o0 : ρ (.tmp 2) = .slice ba bs.length bcap := hA.old 2 (by decide)
    clear hd
    exact runq_val (W' := W) (by simp [execOp, o0, go_sem]) (Below.refl _ _) rfl
  case s3 =>
    intro val ρ W hE hz hd hA hx
    have d1 : ρ (.tmp 29) = .agg #[.slice sa ks.length cap] := (hA.dep 1 (by decide) 29 rfl).trans (hd 1 (by decide))
    have d2 : ρ (.tmp 30) = .slice ba bs.length bcap := (hA.dep 2 (by decide) 30 rfl).trans (hd 2 (by decide))
    clear hd
    refine runq_call 53 _ _ rfl #[.agg #[.slice sa ks.length cap], .slice ba bs.length bcap] (hA.func _) (by simp [d1, d2]) (fun args W => Try.call53 args W) ((rowL_any ks bs _ _ W (HS.out.ext hE) (HB.out.ext hE) H8.out hb60 V.out).mono ?_)
    rintro e w' ⟨r, row, rfl, hb, hi, hw, hl⟩
    exact ⟨_, rfl, hb, row, hi, hw, hl⟩
  case s4 =>
    intro val ρ W hE hz hd hA hx
    have d0 : ρ (.tmp 28) = .agg #[.slice sa ks.length cap] := (hA.dep 0 (by decide) 28 rfl).trans (hd 0 (by decide))
    obtain ⟨row, q3, hw, hl⟩ : GivR ks bs.length W (val 3) := hd 3 (by decide)
    have d3 : ρ (.tmp 31) = val 3 := hA.dep 3 (by decide) 31 rfl
    clear hd
    refine runq_call 28 _ _ rfl #[.agg #[.slice sa ks.length cap], val 3] (hA.func _) (by simp [d0, d3]) (fun args W => Try.call28 args W) ((checkCircle_any ks row _ _ W (HS.out.ext hE) q3).mono ?_)
    rintro e w' ⟨rfl, hb⟩
    exact ⟨_, rfl, hb, row, hw, hl, rfl⟩
  case s5 =>
    intro val ρ W hE hz hd hA hx
    obtain ⟨row, hw, hl, h1⟩ : GivV ks bs.length (val 4) := hd 4 (by decide)
    have dd : ρ (.tmp 32) = .int .i64 (circErr ks row) := (hA.dep 4 (by decide) 32 rfl).trans h1
    exact runq_val (W' := W) (v := .int .i64 (circErr ks row)) (by simp [execOp, dd, go_sem]) (Below.refl _ _) ⟨row, hw, hl, rfl⟩
  case send =>
    intro val WW hE hzz hv
    obtain ⟨-, -, -, -, -, q5, -⟩ := hv
    obtain ⟨row, hwin, hrl, q5'⟩ : GivV ks bs.length (val 5) := q5
    simp only [putD, q5']
    go_frame
    have hEY : Ext Y WW := hE
    have k2 := cell_ext hEY k0
    have hz2 := World.block_lt_of_cell? _ _ k2
    simp only at hz2
    have HSY := Lib.hid (HS.out.ext hEY)
    have HIY := Lib.hid (HI1.out.ext hEY)
    have HR := Lib.hid (HW.out.trans' hEY)
    have hgc := fun h => given_circ V.out hwin h
    rw [hrl] at hgc
    obtain ⟨ge, hge⟩ : ∃ ge, ge = circErr ks row := ⟨_, rfl⟩
    rw [← hge] at hgc ⊢
    clear hE hzz hEY q5' k0 hwin hrl hge





    rcases circleErr_or V.out with ⟨e1, e2⟩ | ⟨e1, e2⟩
    rotate_left
    · have hgn : ge ≠ 0 := fun h => e2 (hgc h).1
      have f1 : (ge == 0) = false := by simpa using hgn
      have f2 : (ge != 0) = true := by simpa using hgn
      have hl0 := HCR.out.bad (by rw [e1]; decide)
      rw [e1, hl0]
      clear e1 e2 hgc hgn hl0

      go_wp2_with fail
      refine callW (W0 := WW) (g := ⟨WW, Below.refl _ _⟩) (by exact (by repeat (first | exact Below.refl _ _ | refine Ext.al ?_ _ | refine Ext.dr ?_ | refine Ext.drN ?_ _ | refine Ext.gr ?_ _ | refine Ext.set ?_ (by simp) _ | (refine Ext.trans' ?_ (by assumption))))) (works_any _) fun g1 hgr => ?_
      clear hgr
      go_wp2_with fail
      go_ret
      exact ⟨rfl, HR.out.trans' (grow_below WW g1)⟩

    have hne := List.length_pos_iff.2 (HCR.out.ne e1)
    have hle := HCR.out.le
    have hce := circErr_of V.out (HCR.out.ne e1) hle (HCR.out.win e1) (HCR.out.circ e1)
    have hge2 : ge = 0 → l.length ≤ bs.length := fun h => (hgc h).2 _ (HCR.out.short e1)
    have HWIN := Lib.hid (HCR.out.win e1)
    have HCI := Lib.hid (HCR.out.circ e1)
    obtain ⟨n, hn⟩ : ∃ n, n = l.length := ⟨_, rfl⟩
    rw [e1]
    rw [← hn] at hne hle hge2 hlc ⊢
    rw [← hn] at HIY
    have HN := Lib.hid hn
    have HCE := Lib.hid hce
    obtain ⟨ia, hia⟩ : ∃ ia, ia = a1 := ⟨_, rfl⟩
    obtain ⟨b, off, hbo⟩ : ∃ b off, a1 = some ⟨b, off, none⟩ := by
      obtain ⟨_, _, e, -, -, hcc⟩ := HIY.out.spec
      cases e
      rcases hcc with hcc | ⟨b, off, hb, -⟩
      · rw [hn, hcc] at hne; simp at hne
      · exact ⟨b, off, hb⟩
    subst hbo
    clear e1 e2 hgc hce hn hia
    obtain ⟨K, hK⟩ : ∃ K : Nat, K = mm.toNat % n := ⟨_, rfl⟩
    have hKn : K < n := by rw [hK]; exact Nat.mod_lt _ (by omega)
    have hmt : Int.tmod mm (n : Int) = (K : Int) := by
      rw [Int.tmod_eq_emod_of_nonneg (by omega), hK]
      conv => lhs; rw [show mm = (mm.toNat : Int) by omega]
      rfl
    have hme : mm % (n : Int) = (K : Int) := by rw [← hmt, Int.tmod_eq_emod_of_nonneg (by omega)]
    have hnn : ((n : Int) == 0) = false := by rw [beq_eq_false_iff_ne]; omega
    have hnn2 : ¬ ((n : Int) = 0) := by omega
    have hw1 : IntKind.i64.wrap mm = mm := IntWalk.i64_in _ (by omega)
    have hw3 : IntKind.i64.wrap (K : Int) = (K : Int) := IntWalk.i64_in _ (by omega)
    have hl1 : decide ((n : Int) < 1) = false := decide_eq_false (by omega)
    have hl2 : decide ((1000 : Int) < (n : Int)) = false := decide_eq_false (by omega)
    clear hK
    have hcut := HIY.out.cut (lo := K) (hi := n) (by omega) (Nat.le_refl _)
    rw [List.take_of_length_le (by rw [← HN.out]; exact Nat.le_refl _)] at hcut
    unfold sliced at hcut
    rw [if_neg (by omega)] at hcut
    simp only [Nat.mul_one, Option.map_some, Addr.add] at hcut
    have hdr : IsInts WW .i64 (.slice (some ⟨b, off + K, none⟩) (n - K) (c1 - K)) (l.drop K) := by
      by_cases h0 : K = 0
      · rw [if_pos h0] at hcut
        rw [show off + K = off by omega]; exact hcut
      · rwa [if_neg h0] at hcut
    have HDR := Lib.hid hdr
    obtain ⟨X, hX⟩ : ∃ X, X = l.drop K ++ l.take K := ⟨_, rfl⟩
    have hXn : X.length = n := by rw [hX, List.length_append, List.length_drop, List.length_take, ← HN.out]; omega
    have hXw : WinL ks X := fun x hx => by
      rw [hX] at hx
      rcases List.mem_append.1 hx with h | h
      · exact HWIN.out x (List.mem_of_mem_drop h)
      · exact HWIN.out x (List.mem_of_mem_take h)
    have hXc : circP ks X = true := by rw [hX]; exact circ_rot V.out HWIN.out HCI.out K
    have hX0 : X ≠ [] := fun h => by rw [h] at hXn; simp at hXn; omega
    have HXE := Lib.hid (circErr_of V.out hX0 (by omega) hXw hXc)
    have HXL := Lib.hid hX
    have HXN := Lib.hid hXn
    have HXW := Lib.hid hXw
    have HXC := Lib.hid hXc
    have hKl : (K : Int) ≤ (n : Int) := by omega
    have hKc : ¬ c1 = K := by omega
    have hKc2 : ¬ c1 < K := by omega
    clear hcut hdr hX hXn hXw hXc hX0

    go_wp2_with fail
    refine callW (W0 := WW) (g := ⟨WW, Below.refl _ _⟩) (by exact (by repeat (first | exact Below.refl _ _ | refine Ext.al ?_ _ | refine Ext.dr ?_ | refine Ext.drN ?_ _ | refine Ext.gr ?_ _ | refine Ext.set ?_ (by simp) _ | (refine Ext.trans' ?_ (by assumption))))) (checkCircleR_any ks l _ _ _ (HSY.out.ext (by exact (by repeat (first | exact Below.refl _ _ | refine Ext.al ?_ _ | refine Ext.dr ?_ | refine Ext.drN ?_ _ | refine Ext.gr ?_ _ | refine Ext.set ?_ (by simp) _ | (refine Ext.trans' ?_ (by assumption)))))) (HIY.out.ext (by exact (by repeat (first | exact Below.refl _ _ | refine Ext.al ?_ _ | refine Ext.dr ?_ | refine Ext.drN ?_ _ | refine Ext.gr ?_ _ | refine Ext.set ?_ (by simp) _ | (refine Ext.trans' ?_ (by assumption))))))) fun g2 hgr => ?_
    replace HDR := Lib.hid (HDR.out.ext hgr)
    clear hgr
    rw [HCE.out]
    by_cases hg0 : ge = 0
    · subst hg0
      have hbn : decide ((bs.length : Int) < (n : Int)) = false := decide_eq_false (by have := hge2 rfl; omega)
      have hbn2 : decide (bs.length < n) = false := decide_eq_false (by have := hge2 rfl; omega)
      clear hge2

      go_upto_region 10 with (fail)
      obtain ⟨U1, hU1⟩ : ∃ zz9, zz9 = (grow WW g2) := ⟨_, rfl⟩
      have eU1 : Ext WW U1 := by rw [hU1]; exact (by repeat (first | exact Below.refl _ _ | refine Ext.al ?_ _ | refine Ext.dr ?_ | refine Ext.drN ?_ _ | refine Ext.gr ?_ _ | refine Ext.set ?_ (by simp) _ | (refine Ext.trans' ?_ (by assumption))))
      have eU1c : Ext (grow WW g2) U1 := by rw [hU1]; exact (by repeat (first | exact Below.refl _ _ | refine Ext.al ?_ _ | refine Ext.dr ?_ | refine Ext.drN ?_ _ | refine Ext.gr ?_ _ | refine Ext.set ?_ (by simp) _ | (refine Ext.trans' ?_ (by assumption))))
      replace k2 := cell_ext eU1 k2
      replace HSY := Lib.hid (HSY.out.ext eU1)
      replace HIY := Lib.hid (HIY.out.ext eU1)
      replace HDR := Lib.hid (HDR.out.ext eU1c)
      replace HR := Lib.hid (HR.out.trans' eU1)
      rw [← hU1]
      replace hz2 := World.block_lt_of_cell? _ _ k2
      clear hU1 eU1 eU1c
      obtain ⟨Y1, hY1⟩ : ∃ Y1, Y1 = U1 := ⟨_, rfl⟩
      subst hY1
      refine wp_region_rove_tail rfl rfl (by kernel_rfl) (Y1.heap.size) (Nat.le_refl _)
        [sqW (fun v W => IsNew W (Y1.heap.size) 3 1 v) (fun _ _ _ h e => h.ext e),
         sqV (.slice (some ⟨b, off, none⟩) n c1),
         sqV (.int .i64 K),
         sqV (.slice (some ⟨b, off + K, none⟩) (n - K) (c1 - K)),
         sqW (fun v W => Owns W Y1.heap.size 3 1 v ((l.drop K).map iRow)) (fun _ _ _ h e => h.ext e),
         sqV (.slice (some ⟨b, off, none⟩) n c1),
         sqV (.int .i64 K),
         sqV (.slice (some ⟨b, off, none⟩) K c1),
         sqW (fun v W => Owns W Y1.heap.size 3 1 v ((l.drop K).map iRow ++ (l.take K).map iRow)) (fun _ _ _ h e => h.ext e)]
        [false, true, true, true, false, true, true, true, false] [false, false, false, false, false, false, false, false, true] [false, true, true, true, false, true, true, true, true] [true, true, true, true, true, true, true, true, true]
        (by kernel_rfl) (by kernel_rfl) (by decide +kernel) (by decide +kernel) (by decide +kernel) rfl ⟨rfl, rfl⟩ ⟨?s0, ?s1, ?s2, ?s3, ?s4, ?s5, ?s6, ?s7, ?s8, trivial⟩ [some 79, some 80, some 81, some 82, some 83, some 84, some 85, some 86, some 87] rfl rfl ?send
      case s0 =>
        intro val ρ W hE hz hd hA hx
        exact runq_val (W' := W.alloc (.cells #[] 3)) (v := .slice (some ⟨W.heap.size, 0, none⟩) 0 0) (by simp [execOp, go_sem]) (by repeat (first | exact Below.refl _ _ | refine Ext.al ?_ _ | refine Ext.dr ?_ | refine Ext.drN ?_ _ | refine Ext.gr ?_ _ | refine Ext.set ?_ (by simp) _ | (refine Ext.trans' ?_ (by assumption)))) (isNew W _ _ _ (by omega))
      case s1 =>
        intro val ρ W hE hz hd hA hx
        have o0 : ρ (.tmp 7) = .slice (some ⟨b, off, none⟩) n c1 := hA.old 7 (by decide)
        clear hd
        exact runq_val (W' := W) (by simp [execOp, o0, go_sem]) (Below.refl _ _) rfl
      case s2 =>
        intro val ρ W hE hz hd hA hx
        have o0 : ρ (.tmp 10) = .int .i64 K := hA.old 10 (by decide)
        clear hd
        exact runq_val (W' := W) (by simp [execOp, o0, go_sem]) (Below.refl _ _) rfl
      case s3 =>
        intro val ρ W hE hz hd hA hx
        have d1 : ρ (.tmp 80) = .slice (some ⟨b, off, none⟩) n c1 := (hA.dep 1 (by decide) 80 rfl).trans (hd 1 (by decide))
        have d2 : ρ (.tmp 81) = .int .i64 K := (hA.dep 2 (by decide) 81 rfl).trans (hd 2 (by decide))
        clear hd
        exact runq_val (W' := W) (by simp [execOp, d1, d2, hKl, hKc, go_sem]) (Below.refl _ _) rfl
      case s5 =>
        intro val ρ W hE hz hd hA hx
        have o0 : ρ (.tmp 7) = .slice (some ⟨b, off, none⟩) n c1 := hA.old 7 (by decide)
        clear hd
        exact runq_val (W' := W) (by simp [execOp, o0, go_sem]) (Below.refl _ _) rfl
      case s6 =>
        intro val ρ W hE hz hd hA hx
        have o0 : ρ (.tmp 10) = .int .i64 K := hA.old 10 (by decide)
        clear hd
        exact runq_val (W' := W) (by simp [execOp, o0, go_sem]) (Below.refl _ _) rfl
      case s7 =>
        intro val ρ W hE hz hd hA hx
        have d5 : ρ (.tmp 84) = .slice (some ⟨b, off, none⟩) n c1 := (hA.dep 5 (by decide) 84 rfl).trans (hd 5 (by decide))
        have d6 : ρ (.tmp 85) = .int .i64 K := (hA.dep 6 (by decide) 85 rfl).trans (hd 6 (by decide))
        clear hd
        exact runq_val (W' := W) (by simp [execOp, d5, d6, hKc2, go_sem]) (Below.refl _ _) rfl
      case s4 =>
        intro val ρ W hE hz hd hA hx
        have d0 : IsNew W Y1.heap.size 3 1 (val 0) := hd 0 (by decide)
        have e0 : ρ (.tmp 79) = val 0 := hA.dep 0 (by decide) 79 rfl
        have d2 : ρ (.tmp 82) = .slice (some ⟨b, off + K, none⟩) (n - K) (c1 - K) := (hA.dep 3 (by decide) 82 rfl).trans (hd 3 (by decide))
        clear hd
        have hb1 : ((l.drop K).map iRow).length ≤ 1000000 := by rw [List.length_map, List.length_drop, ← HN.out]; omega
        have hS : IsRows W 1 (.slice (some ⟨b, off + K, none⟩) (n - K) (c1 - K)) ((l.drop K).map iRow) := HDR.out.ext hE
        obtain ⟨v', w', hrun, ho, he⟩ := app_new elInt 22 _ d0 ((l.drop K).map iRow) ints_len hS ints_one hb1 hz
        exact runq_append (.tmp 79) (.tmp 82) rfl rfl _ _ e0 d2 hrun he ho
      case s8 =>
        intro val ρ W hE hz hd hA hx
        have d3 : Owns W Y1.heap.size 3 1 (val 4) ((l.drop K).map iRow) := hd 4 (by decide)
        have e3 : ρ (.tmp 83) = val 4 := hA.dep 4 (by decide) 83 rfl
        have e5 : ρ (.tmp 86) = .slice (some ⟨b, off, none⟩) ((l.take K).map iRow).length c1 := (hA.dep 7 (by decide) 86 rfl).trans ((hd 7 (by decide)).trans (by rw [List.length_map, List.length_take, ← HN.out, Nat.min_eq_left (by omega)]))
        have hR : RowsAt W 1 b off ((l.take K).map iRow) := by
          have := (ints_rows (HIY.out.ext hE)).take K
          rwa [← List.map_take] at this
        obtain ⟨v', w', hrun, ho, hb⟩ := app_run elInt 22 Y1.heap.size d3 b off c1 ((l.take K).map iRow) ints_len hR ints_one (by rw [List.length_map, List.length_map, List.length_drop, List.length_take, ← HN.out]; omega) hz
        exact runq_append (.tmp 83) (.tmp 86) rfl rfl _ _ e3 e5 hrun hb ho
      case send =>
        intro val WX hE hzz hv
        obtain ⟨-, -, -, -, -, -, -, -, r8, -⟩ := hv
        have q8 : Owns WX Y1.heap.size 3 1 (val 8) ((l.drop K).map iRow ++ (l.take K).map iRow) := r8
        rw [← List.map_append, ← HXL.out] at q8
        have hi8 := q8.oneInts
        obtain ⟨va, vc, e8, -, -, hcc⟩ := hi8.spec
        obtain ⟨vb, vo, rfl⟩ : ∃ vb vo, va = some ⟨vb, vo, none⟩ := by
          rcases hcc with hcc | ⟨b2, o2, hb2, -⟩
          · have h0 := HXN.out
            rw [hcc] at h0
            simp at h0; omega
          · exact ⟨b2, o2, hb2⟩
        clear hcc
        rw [e8] at hi8
        rw [HXN.out] at hi8 e8
        simp only [putD, e8]
        go_frame
        have hEX : Ext Y1 WX := hE
        have k4 := cell_ext hEX k2
        have hz4 := World.block_lt_of_cell? _ _ k4
        simp only at hz4
        have HSX := Lib.hid (HSY.out.ext hEX)
        have HXX := Lib.hid hi8
        have HRX := Lib.hid (HR.out.trans' hEX)
        clear r8 q8 hi8 e8 hE hzz hEX k2





        go_wp2_with fail
        refine callW (W0 := WX) (g := ⟨WX, Below.refl _ _⟩) (by exact (by repeat (first | exact Below.refl _ _ | refine Ext.al ?_ _ | refine Ext.dr ?_ | refine Ext.drN ?_ _ | refine Ext.gr ?_ _ | refine Ext.set ?_ (by simp) _ | (refine Ext.trans' ?_ (by assumption))))) (checkCircle_any ks X _ _ _ (HSX.out.ext (by exact (by repeat (first | exact Below.refl _ _ | refine Ext.al ?_ _ | refine Ext.dr ?_ | refine Ext.drN ?_ _ | refine Ext.gr ?_ _ | refine Ext.set ?_ (by simp) _ | (refine Ext.trans' ?_ (by assumption)))))) (HXX.out.ext (by exact (by repeat (first | exact Below.refl _ _ | refine Ext.al ?_ _ | refine Ext.dr ?_ | refine Ext.drN ?_ _ | refine Ext.gr ?_ _ | refine Ext.set ?_ (by simp) _ | (refine Ext.trans' ?_ (by assumption))))))) fun g1 hgr => ?_
        clear hgr
        rw [HXE.out]
        have hx2 : IntKind.i64.wrap (2 * (n : Int)) = 2 * (n : Int) := IntWalk.i64_in _ (by omega)

        by_cases h2n : 2 * (n : Int) ≤ 1000
        · have hd2 : decide (2 * (n : Int) ≤ 1000) = true := decide_eq_true h2n
          have hxx0 : X ++ X ≠ [] := fun h => by
            have h0 := HXN.out
            rw [(List.append_eq_nil_iff.1 h).1] at h0
            simp at h0; omega
          have HX2 := Lib.hid (circErr_of V.out hxx0 (by rw [List.length_append, HXN.out]; omega) (fun x hx => (List.mem_append.1 hx).elim (HXW.out x) (HXW.out x)) (circ_two V.out HXW.out HXC.out))
          clear hxx0
          go_upto_region 13 with (fail)
          obtain ⟨U2, hU2⟩ : ∃ zz9, zz9 = (grow WX g1) := ⟨_, rfl⟩
          have eU2 : Ext WX U2 := by rw [hU2]; exact (by repeat (first | exact Below.refl _ _ | refine Ext.al ?_ _ | refine Ext.dr ?_ | refine Ext.drN ?_ _ | refine Ext.gr ?_ _ | refine Ext.set ?_ (by simp) _ | (refine Ext.trans' ?_ (by assumption))))
          replace k4 := cell_ext eU2 k4
          replace HSX := Lib.hid (HSX.out.ext eU2)
          replace HXX := Lib.hid (HXX.out.ext eU2)
          replace HRX := Lib.hid (HRX.out.trans' eU2)
          rw [← hU2]
          replace hz4 := World.block_lt_of_cell? _ _ k4
          clear hU2 eU2
          obtain ⟨Y2, hY2⟩ : ∃ Y2, Y2 = U2 := ⟨_, rfl⟩
          subst hY2
          refine wp_region_roveG (Y2.heap.size) (Nat.le_refl _)
            [sqV (.slice (some ⟨b, off, none⟩) n c1),
             sqV (.int .i64 n),
             sqV (.int .i64 (2 * (n : Int))),
             sqV (.bool true),
             sqV (.bool true),
             sqV (.agg #[.slice sa ks.length cap]),
             sqW (fun v W => IsNew W (Y2.heap.size) 3 1 v) (fun _ _ _ h e => h.ext e),
             sqV (.slice (some ⟨vb, vo, none⟩) n vc),
             sqW (fun v W => Owns W Y2.heap.size 3 1 v (X.map iRow)) (fun _ _ _ h e => h.ext e),
             sqV (.slice (some ⟨vb, vo, none⟩) n vc),
             sqW (fun v W => Owns W Y2.heap.size 3 1 v (X.map iRow ++ X.map iRow)) (fun _ _ _ h e => h.ext e),
             sqV (.int .i64 0),
             sqV (.bool false),
             sqV (.bool false)]
            [true, true, true, true, true, true, false, true, false, true, false, true, true, true] [false, false, false, false, false, false, false, false, false, false, true, false, false, false] [true, true, true, true, true, true, false, true, false, true, true, true, true, true] [true, true, true, true, true, false, true, true, true, true, true, false, false, false] [true, true, true, true, true, true, true, true, true, true, true, true, true, true] [none, none, none, some true, some true, none, none, none, none, none, none, none, some false, some false]
            (by kernel_rfl) (by kernel_rfl) (by decide +kernel) ⟨fun _ _ _ h => h, ⟨fun _ _ _ h => h, ⟨fun _ _ _ h => h, ⟨fun _ _ _ h => h, trivial⟩⟩⟩⟩ (by decide +kernel) (by decide +kernel) (by decide +kernel) rfl ⟨rfl, rfl, rfl⟩ ⟨?s0, ?s1, ?s2, ?s3, ?s4, ?s5, ?s6, ?s7, ?s8, ?s9, ?s10, ?s11, ?s12, ?s13, trivial⟩ [some 92, some 93, some 94, some 95, some 96, some 97, some 98, some 99, some 100, some 101, some 102, some 103, some 104, some 105] rfl rfl ?send
          case s0 =>
            intro val ρ W hE hz hd hu hA hx
            have o0 : ρ (.tmp 7) = .slice (some ⟨b, off, none⟩) n c1 := hA.old 7 (by decide)
            clear hd hu
            exact runq_val (W' := W) (by simp [execOp, o0, go_sem]) (Below.refl _ _) rfl
          case s1 =>
            intro val ρ W hE hz hd hu hA hx
            have d0 : ρ (.tmp 92) = .slice (some ⟨b, off, none⟩) n c1 := (hA.dep 0 (by decide) 92 rfl).trans (hd 0 (by decide))
            clear hd hu
            exact runq_val (W' := W) (by simp [execOp, d0, go_sem]) (Below.refl _ _) rfl
          case s2 =>
            intro val ρ W hE hz hd hu hA hx
            have d1 : ρ (.tmp 93) = .int .i64 n := (hA.dep 1 (by decide) 93 rfl).trans (hd 1 (by decide))
            clear hd hu
            exact runq_val (W' := W) (by simp [execOp, hA.const, d1, hx2, go_sem]) (Below.refl _ _) rfl
          case s3 =>
            intro val ρ W hE hz hd hu hA hx
            have d2 : ρ (.tmp 94) = .int .i64 (2 * (n : Int)) := (hA.dep 2 (by decide) 94 rfl).trans (hd 2 (by decide))
            clear hd hu
            exact runq_val (W' := W) (by simp [execOp, hA.const, d2, hd2, go_sem]) (Below.refl _ _) rfl
          case s4 =>
            intro val ρ W hE hz hd hu hA hx
            have d3 : ρ (.tmp 95) = .bool true := (hA.dep 3 (by decide) 95 rfl).trans (hd 3 (by decide))
            clear hd hu
            exact runq_val (W' := W) (by simp [execOp, d3, go_sem]) (Below.refl _ _) rfl
          case s5 =>
            intro val ρ W hE hz hd hu hA hx
            have o0 : ρ (.tmp 3) = .pointer (some ⟨w.heap.size, 0, none⟩) := hA.old 3 (by decide)
            have f_k4 := cell_below hE (by simp only; omega) k4
            clear hd hu
            exact runq_val (W' := W) (by simp [execOp, o0, f_k4, go_sem]) (Below.refl _ _) rfl
          case s6 =>
            intro val ρ W hE hz hd hu hA hx
            exact runq_val (W' := W.alloc (.cells #[] 3)) (v := .slice (some ⟨W.heap.size, 0, none⟩) 0 0) (by simp [execOp, go_sem]) (by repeat (first | exact Below.refl _ _ | refine Ext.al ?_ _ | refine Ext.dr ?_ | refine Ext.drN ?_ _ | refine Ext.gr ?_ _ | refine Ext.set ?_ (by simp) _ | (refine Ext.trans' ?_ (by assumption)))) (isNew W _ _ _ (by omega))
          case s7 =>
            intro val ρ W hE hz hd hu hA hx
            have o0 : ρ (.tmp 11) = .slice (some ⟨vb, vo, none⟩) n vc := hA.old 11 (by decide)
            clear hd hu
            exact runq_val (W' := W) (by simp [execOp, o0, go_sem]) (Below.refl _ _) rfl
          case s9 =>
            intro val ρ W hE hz hd hu hA hx
            have o0 : ρ (.tmp 11) = .slice (some ⟨vb, vo, none⟩) n vc := hA.old 11 (by decide)
            clear hd hu
            exact runq_val (W' := W) (by simp [execOp, o0, go_sem]) (Below.refl _ _) rfl
          case s12 =>
            intro val ρ W hE hz hd hu hA hx
            have d11 : ρ (.tmp 103) = .int .i64 0 := (hA.dep 11 (by decide) 103 rfl).trans (hd 11 (by decide))
            clear hd hu
            exact runq_val (W' := W) (by simp [execOp, hA.const, d11, go_sem]) (Below.refl _ _) rfl
          case s13 =>
            intro val ρ W hE hz hd hu hA hx
            have d4 : ρ (.tmp 96) = .bool true := (hA.dep 4 (by decide) 96 rfl).trans (hd 4 (by decide))
            have d12 : ρ (.tmp 104) = .bool false := (hA.dep 12 (by decide) 104 rfl).trans (hd 12 (by decide))
            clear hd hu
            exact runq_val (W' := W) (by simp [execOp, hA.const, d4, d12, go_sem]) (Below.refl _ _) rfl
          case s8 =>
            intro val ρ W hE hz hd hu hA hx
            have d0 : IsNew W Y2.heap.size 3 1 (val 6) := hd 6 (by decide)
            have e0 : ρ (.tmp 98) = val 6 := hA.dep 6 (by decide) 98 rfl
            have d2 : ρ (.tmp 99) = .slice (some ⟨vb, vo, none⟩) n vc := (hA.dep 7 (by decide) 99 rfl).trans (hd 7 (by decide))
            clear hd hu
            have hb1 : (X.map iRow).length ≤ 1000000 := by rw [List.length_map, HXN.out]; omega
            have hS : IsRows W 1 (.slice (some ⟨vb, vo, none⟩) n vc) (X.map iRow) := HXX.out.ext hE
            obtain ⟨v', w', hrun, ho, he⟩ := app_new elInt 22 _ d0 (X.map iRow) ints_len hS ints_one hb1 hz
            exact runq_append (.tmp 98) (.tmp 99) rfl rfl _ _ e0 d2 hrun he ho
          case s10 =>
            intro val ρ W hE hz hd hu hA hx
            have d3 : Owns W Y2.heap.size 3 1 (val 8) (X.map iRow) := hd 8 (by decide)
            have e3 : ρ (.tmp 100) = val 8 := hA.dep 8 (by decide) 100 rfl
            have e5 : ρ (.tmp 101) = .slice (some ⟨vb, vo, none⟩) (X.map iRow).length vc := (hA.dep 9 (by decide) 101 rfl).trans ((hd 9 (by decide)).trans (by rw [List.length_map, HXN.out]))
            clear hd hu
            have hR : RowsAt W 1 vb vo (X.map iRow) := ints_rows (HXX.out.ext hE)
            obtain ⟨v', w', hrun, ho, hb⟩ := app_run elInt 22 Y2.heap.size d3 vb vo vc (X.map iRow) ints_len hR ints_one (by rw [List.length_map, HXN.out]; omega) hz
            exact runq_append (.tmp 100) (.tmp 101) rfl rfl _ _ e3 e5 hrun hb ho
          case s11 =>
            intro val ρ W hE hz hd hu hA hx
            have d5 : ρ (.tmp 97) = .agg #[.slice sa ks.length cap] := (hA.dep 5 (by decide) 97 rfl).trans (hd 5 (by decide))
            have q10 : Owns W Y2.heap.size 3 1 (val 10) (X.map iRow ++ X.map iRow) := hd 10 (by decide)
            have d10 : ρ (.tmp 102) = val 10 := hA.dep 10 (by decide) 102 rfl
            clear hd hu
            rw [← List.map_append] at q10
            have hI := q10.oneInts
            refine runq_call 28 _ _ rfl #[.agg #[.slice sa ks.length cap], val 10] (hA.func _) (by simp [d5, d10]) (fun args W => Try.call28 args W) ((checkCircle_any ks (X ++ X) _ _ W (HSX.out.ext hE) hI).mono ?_)
            rintro e w' ⟨rfl, hb⟩
            rw [HX2.out]
            exact ⟨_, rfl, hb, rfl⟩
          case send =>
            intro val WZ hE hzz hv
            obtain ⟨-, -, -, -, -, -, -, -, -, -, -, -, -, r13, -⟩ := hv
            have r13' : val 13 = .bool false := r13
            simp only [putD, r13']
            go_frame
            have hEX2 : Ext Y2 WZ := hE
            have k5 := cell_ext hEX2 k4
            have hz5 := World.block_lt_of_cell? _ _ k5
            simp only at hz5
            have HSZ := Lib.hid (HSX.out.ext hEX2)
            have HXZ := Lib.hid (HXX.out.ext hEX2)
            have HRZ := Lib.hid (HRX.out.trans' hEX2)
            clear r13 r13' hE hzz hEX2 k4 hd2 h2n hx2 HX2





            go_upto_region 15 with (fail)
            obtain ⟨t, ht0, ht1, ht2, ht3, ht4⟩ := circ_behind V.out HXW.out HXC.out (by rw [HXN.out]; omega)
            rw [HXN.out] at ht2
            have HT0 := Lib.hid ht0
            have HT1 := Lib.hid ht1
            have HT2 := Lib.hid ht2
            have HT3 := Lib.hid ht3
            have HT4 := Lib.hid ht4
            clear ht0 ht1 ht2 ht3 ht4
            refine wp_region_rove (WZ.heap.size) (Nat.le_refl _)
              [sqV (.agg #[.slice sa ks.length cap]),
               sqV (.agg #[.slice sa ks.length cap]),
               sqW (fun v W => IsInts W .i64 v (zeroS ks)) (fun _ _ _ h e => IsInts.ext e h),
               sqV (.slice (some ⟨vb, vo, none⟩) n vc),
               sqW (fun v W => PlyP t n W v) (fun _ _ _ h e => PlyP.ext e h),
               sqW (fun v W => PlyP t n W v) (fun _ _ _ h e => PlyP.ext e h),
               sqW (fun v W => IsInts W .i64 v t) (fun _ _ _ h e => IsInts.ext e h),
               sqV (.int .i64 n),
               sqV (.int .i64 0),
               sqW (fun v W => IsInts W .i64 v t) (fun _ _ _ h e => IsInts.ext e h),
               sqV (.int .i64 n),
               sqV (.int .i64 0)]
              [true, true, false, true, false, false, false, true, true, false, true, true] [false, false, false, false, false, false, false, false, false, false, false, false] [true, true, true, true, true, true, true, true, true, true, true, true] [true, true, true, true, true, true, true, true, true, true, true, true]
              (by kernel_rfl) (by kernel_rfl) (by decide +kernel) (by decide +kernel) (by decide +kernel) rfl ⟨rfl, rfl⟩ ⟨?s0, ?s1, ?s2, ?s3, ?s4, ?s5, ?s6, ?s7, ?s8, ?s9, ?s10, ?s11, trivial⟩ [some 107, some 108, some 109, some 110, some 111, some 106, some 112, some 113, some 114, some 12, some 13, some 8] rfl rfl ?send
            case s0 =>
              intro val ρ W hE hz hd hA hx
              have o0 : ρ (.tmp 3) = .pointer (some ⟨w.heap.size, 0, none⟩) := hA.old 3 (by decide)
              have f_k5 := cell_below hE (by simp only; omega) k5
              clear hd
              exact runq_val (W' := W) (by simp [execOp, o0, f_k5, go_sem]) (Below.refl _ _) rfl
            case s1 =>
              intro val ρ W hE hz hd hA hx
              have o0 : ρ (.tmp 3) = .pointer (some ⟨w.heap.size, 0, none⟩) := hA.old 3 (by decide)
              have f_k5 := cell_below hE (by simp only; omega) k5
              clear hd
              exact runq_val (W' := W) (by simp [execOp, o0, f_k5, go_sem]) (Below.refl _ _) rfl
            case s3 =>
              intro val ρ W hE hz hd hA hx
              have o0 : ρ (.tmp 11) = .slice (some ⟨vb, vo, none⟩) n vc := hA.old 11 (by decide)
              clear hd
              exact runq_val (W' := W) (by simp [execOp, o0, go_sem]) (Below.refl _ _) rfl
            case s10 =>
              intro val ρ W hE hz hd hA hx
              have d7 : ρ (.tmp 113) = .int .i64 n := (hA.dep 7 (by decide) 113 rfl).trans (hd 7 (by decide))
              clear hd
              exact runq_val (W' := W) (by simp [execOp, d7, go_sem]) (Below.refl _ _) rfl
            case s11 =>
              intro val ρ W hE hz hd hA hx
              have d8 : ρ (.tmp 114) = .int .i64 0 := (hA.dep 8 (by decide) 114 rfl).trans (hd 8 (by decide))
              clear hd
              exact runq_val (W' := W) (by simp [execOp, d8, go_sem]) (Below.refl _ _) rfl
            case s2 =>
              intro val ρ W hE hz hd hA hx
              have d1 : ρ (.tmp 108) = .agg #[.slice sa ks.length cap] := (hA.dep 1 (by decide) 108 rfl).trans (hd 1 (by decide))
              clear hd
              refine runq_call 54 _ _ rfl #[.agg #[.slice sa ks.length cap]] (hA.func _) (by simp [d1]) (fun args W => Try.call54 args W) ((emptyR_any ks _ W (HSZ.out.ext hE) (by omega)).mono ?_)
              rintro e w' ⟨g, rfl, hb, -, hN⟩
              exact ⟨_, rfl, hb, hN.zero (by omega)⟩
            case s4 =>
              intro val ρ W hE hz hd hA hx
              have d0 : ρ (.tmp 107) = .agg #[.slice sa ks.length cap] := (hA.dep 0 (by decide) 107 rfl).trans (hd 0 (by decide))
              have q2 : IsInts W .i64 (val 2) (zeroS ks) := hd 2 (by decide)
              have d2 : ρ (.tmp 109) = val 2 := hA.dep 2 (by decide) 109 rfl
              have d3 : ρ (.tmp 110) = .slice (some ⟨vb, vo, none⟩) n vc := (hA.dep 3 (by decide) 110 rfl).trans (hd 3 (by decide))
              clear hd
              refine runq_call 26 _ _ rfl #[.agg #[.slice sa ks.length cap], val 2, .slice (some ⟨vb, vo, none⟩) n vc] (hA.func _) (by simp [d0, d2, d3]) (fun args W => Try.call26 args W) ((play_any ks (zeroS ks) X _ _ _ W (HSZ.out.ext hE) q2 (HXZ.out.ext hE)).mono ?_)
              rintro e w' ⟨r, rfl, hb, hi⟩
              rw [HT1.out, HT2.out]
              exact ⟨_, rfl, hb, r, rfl, by rw [← HT3.out]; exact hi⟩
            case s5 =>
              intro val ρ W hE hz hd hA hx
              obtain ⟨r, h1, h2⟩ : PlyP t n W (val 4) := hd 4 (by decide)
              have dd : ρ (.tmp 111) = .tuple #[r, .int .i64 n, .int .i64 0] := (hA.dep 4 (by decide) 111 rfl).trans h1
              exact runq_val (W' := W) (v := .tuple #[r, .int .i64 n, .int .i64 0]) (by simp [execOp, dd, go_sem]) (Below.refl _ _) ⟨r, rfl, h2⟩
            case s6 =>
              intro val ρ W hE hz hd hA hx
              obtain ⟨r, h1, h2⟩ : PlyP t n W (val 5) := hd 5 (by decide)
              have dd : ρ (.tmp 106) = .tuple #[r, .int .i64 n, .int .i64 0] := (hA.dep 5 (by decide) 106 rfl).trans h1
              exact runq_val (W' := W) (v := r) (by simp [execOp, dd, go_sem]) (Below.refl _ _) h2
            case s7 =>
              intro val ρ W hE hz hd hA hx
              obtain ⟨r, h1, h2⟩ : PlyP t n W (val 5) := hd 5 (by decide)
              have dd : ρ (.tmp 106) = .tuple #[r, .int .i64 n, .int .i64 0] := (hA.dep 5 (by decide) 106 rfl).trans h1
              exact runq_val (W' := W) (v := .int .i64 n) (by simp [execOp, dd, go_sem]) (Below.refl _ _) rfl
            case s8 =>
              intro val ρ W hE hz hd hA hx
              obtain ⟨r, h1, h2⟩ : PlyP t n W (val 5) := hd 5 (by decide)
              have dd : ρ (.tmp 106) = .tuple #[r, .int .i64 n, .int .i64 0] := (hA.dep 5 (by decide) 106 rfl).trans h1
              exact runq_val (W' := W) (v := .int .i64 0) (by simp [execOp, dd, go_sem]) (Below.refl _ _) rfl
            case s9 =>
              intro val ρ W hE hz hd hA hx
              have q6 : IsInts W .i64 (val 6) t := hd 6 (by decide)
              have d6 : ρ (.tmp 112) = val 6 := hA.dep 6 (by decide) 112 rfl
              exact runq_val (W' := W) (v := val 6) (by simp [execOp, d6, go_sem]) (Below.refl _ _) q6
            case send =>
              intro val WQ hE hzz hv
              obtain ⟨-, -, -, -, -, -, -, -, -, q9, q10, q11, -⟩ := hv
              have q10' : val 10 = .int .i64 n := q10
              have q11' : val 11 = .int .i64 0 := q11
              replace q9 : IsInts WQ .i64 (val 9) t := q9
              obtain ⟨ta, tc, e9, -⟩ := q9.spec
              rw [e9] at q9
              simp only [putD, e9, q10', q11']
              go_frame
              have hEQ : Ext WZ WQ := hE
              have k6 := cell_ext hEQ k5
              have hz6 := World.block_lt_of_cell? _ _ k6
              simp only at hz6
              have HSQ := Lib.hid (HSZ.out.ext hEQ)
              have HTQ := Lib.hid q9
              have HRQ := Lib.hid (HRZ.out.trans' hEQ)
              clear hE hzz hEQ q9 q10 q10' q11 q11' e9 k5 hz5





              go_wp2_with fail
              refine callW (W0 := WQ) (g := ⟨WQ, Below.refl _ _⟩) (by exact (by repeat (first | exact Below.refl _ _ | refine Ext.al ?_ _ | refine Ext.dr ?_ | refine Ext.drN ?_ _ | refine Ext.gr ?_ _ | refine Ext.set ?_ (by simp) _ | (refine Ext.trans' ?_ (by assumption))))) (statedR_any ks t _ _ _ (HSQ.out.ext (by exact (by repeat (first | exact Below.refl _ _ | refine Ext.al ?_ _ | refine Ext.dr ?_ | refine Ext.drN ?_ _ | refine Ext.gr ?_ _ | refine Ext.set ?_ (by simp) _ | (refine Ext.trans' ?_ (by assumption)))))) (HTQ.out.ext (by exact (by repeat (first | exact Below.refl _ _ | refine Ext.al ?_ _ | refine Ext.dr ?_ | refine Ext.drN ?_ _ | refine Ext.gr ?_ _ | refine Ext.set ?_ (by simp) _ | (refine Ext.trans' ?_ (by assumption))))))) fun g1 hgr => ?_
              clear hgr
              rw [stErr_of V.out HT0.out]
              go_wp2_with fail
              refine callWR (W0 := WQ) (g := g1) (by exact (by repeat (first | exact Below.refl _ _ | refine Ext.al ?_ _ | refine Ext.dr ?_ | refine Ext.drN ?_ _ | refine Ext.gr ?_ _ | refine Ext.set ?_ (by simp) _ | (refine Ext.trans' ?_ (by assumption))))) (doomF_any ks t _ _ _ (HSQ.out.ext (by exact (by repeat (first | exact Below.refl _ _ | refine Ext.al ?_ _ | refine Ext.dr ?_ | refine Ext.drN ?_ _ | refine Ext.gr ?_ _ | refine Ext.set ?_ (by simp) _ | (refine Ext.trans' ?_ (by assumption)))))) (HTQ.out.ext (by exact (by repeat (first | exact Below.refl _ _ | refine Ext.al ?_ _ | refine Ext.dr ?_ | refine Ext.drN ?_ _ | refine Ext.gr ?_ _ | refine Ext.set ?_ (by simp) _ | (refine Ext.trans' ?_ (by assumption))))))) (fun _ _ ⟨_, _, _, r, _⟩ => r) fun _ g2 hgr hr => ?_
              obtain ⟨x, dl, rfl, -, hI, -, -⟩ := hr
              clear hgr
              obtain ⟨a5, c5, rfl, -, -⟩ := hI.spec
              clear hI
              rw [HT4.out]
              go_wp2_with fail
              refine callW (W0 := WQ) (g := g2) (by exact (by repeat (first | exact Below.refl _ _ | refine Ext.al ?_ _ | refine Ext.dr ?_ | refine Ext.drN ?_ _ | refine Ext.gr ?_ _ | refine Ext.set ?_ (by simp) _ | (refine Ext.trans' ?_ (by assumption))))) (works_any _) fun g3 hgr => ?_
              clear hgr
              go_wp2_with fail
              go_ret
              exact ⟨rfl, HRQ.out.trans' (grow_below WQ g3)⟩

        · have hd2 : decide (2 * (n : Int) ≤ 1000) = false := decide_eq_false h2n
          clear h2n
          go_upto_region 13 with (fail)
          obtain ⟨U2, hU2⟩ : ∃ zz9, zz9 = (grow WX g1) := ⟨_, rfl⟩
          have eU2 : Ext WX U2 := by rw [hU2]; exact (by repeat (first | exact Below.refl _ _ | refine Ext.al ?_ _ | refine Ext.dr ?_ | refine Ext.drN ?_ _ | refine Ext.gr ?_ _ | refine Ext.set ?_ (by simp) _ | (refine Ext.trans' ?_ (by assumption))))
          replace k4 := cell_ext eU2 k4
          replace HSX := Lib.hid (HSX.out.ext eU2)
          replace HXX := Lib.hid (HXX.out.ext eU2)
          replace HRX := Lib.hid (HRX.out.trans' eU2)
          rw [← hU2]
          replace hz4 := World.block_lt_of_cell? _ _ k4
          clear hU2 eU2
          obtain ⟨Y2, hY2⟩ : ∃ Y2, Y2 = U2 := ⟨_, rfl⟩
          subst hY2
          refine wp_region_roveG (Y2.heap.size) (Nat.le_refl _)
            [sqV (.slice (some ⟨b, off, none⟩) n c1),
             sqV (.int .i64 n),
             sqV (.int .i64 (2 * (n : Int))),
             sqV (.bool false),
             sqV (.bool false),
             sqV undef,
             sqV undef,
             sqV undef,
             sqV undef,
             sqV undef,
             sqV undef,
             sqV undef,
             sqV undef,
             sqV (.bool false)]
            [true, true, true, true, true, true, true, true, true, true, true, true, true, true] [false, false, false, false, false, false, false, false, false, false, false, false, false, false] [true, true, true, true, true, true, true, true, true, true, true, true, true, true] [true, true, true, true, true, true, true, true, true, true, true, true, true, true] [true, true, true, true, true, false, false, false, false, false, false, false, false, true] [none, none, none, some false, some false, none, none, none, none, none, none, none, none, some false]
            (by kernel_rfl) (by kernel_rfl) (by decide +kernel) ⟨fun _ _ _ h => h, ⟨fun _ _ _ h => h, ⟨fun _ _ _ h => h, trivial⟩⟩⟩ (by decide +kernel) (by decide +kernel) (by decide +kernel) rfl ⟨rfl, rfl, rfl⟩ ⟨?s0, ?s1, ?s2, ?s3, ?s4, ?s5, ?s6, ?s7, ?s8, ?s9, ?s10, ?s11, ?s12, ?s13, trivial⟩ [some 92, some 93, some 94, some 95, some 96, some 97, some 98, some 99, some 100, some 101, some 102, some 103, some 104, some 105] rfl rfl ?send
          case s0 =>
            intro val ρ W hE hz hd hu hA hx
            have o0 : ρ (.tmp 7) = .slice (some ⟨b, off, none⟩) n c1 := hA.old 7 (by decide)
            clear hd hu
            exact runq_val (W' := W) (by simp [execOp, o0, go_sem]) (Below.refl _ _) rfl
          case s1 =>
            intro val ρ W hE hz hd hu hA hx
            have d0 : ρ (.tmp 92) = .slice (some ⟨b, off, none⟩) n c1 := (hA.dep 0 (by decide) 92 rfl).trans (hd 0 (by decide))
            clear hd hu
            exact runq_val (W' := W) (by simp [execOp, d0, go_sem]) (Below.refl _ _) rfl
          case s2 =>
            intro val ρ W hE hz hd hu hA hx
            have d1 : ρ (.tmp 93) = .int .i64 n := (hA.dep 1 (by decide) 93 rfl).trans (hd 1 (by decide))
            clear hd hu
            exact runq_val (W' := W) (by simp [execOp, hA.const, d1, hx2, go_sem]) (Below.refl _ _) rfl
          case s3 =>
            intro val ρ W hE hz hd hu hA hx
            have d2 : ρ (.tmp 94) = .int .i64 (2 * (n : Int)) := (hA.dep 2 (by decide) 94 rfl).trans (hd 2 (by decide))
            clear hd hu
            exact runq_val (W' := W) (by simp [execOp, hA.const, d2, hd2, go_sem]) (Below.refl _ _) rfl
          case s4 =>
            intro val ρ W hE hz hd hu hA hx
            have d3 : ρ (.tmp 95) = .bool false := (hA.dep 3 (by decide) 95 rfl).trans (hd 3 (by decide))
            clear hd hu
            exact runq_val (W' := W) (by simp [execOp, d3, go_sem]) (Below.refl _ _) rfl
          case s5 => exact ⟨fun _ _ => rfl, fun _ _ _ h => h⟩
          case s6 => exact ⟨fun _ _ => rfl, fun _ _ _ h => h⟩
          case s7 => exact ⟨fun _ _ => rfl, fun _ _ _ h => h⟩
          case s8 => exact ⟨fun _ _ => rfl, fun _ _ _ h => h⟩
          case s9 => exact ⟨fun _ _ => rfl, fun _ _ _ h => h⟩
          case s10 => exact ⟨fun _ _ => rfl, fun _ _ _ h => h⟩
          case s11 => exact ⟨fun _ _ => rfl, fun _ _ _ h => h⟩
          case s12 => exact ⟨fun _ _ => rfl, fun _ _ _ h => h⟩
          case s13 =>
            intro val ρ W hE hz hd hu hA hx
            have d4 : ρ (.tmp 96) = .bool false := (hA.dep 4 (by decide) 96 rfl).trans (hd 4 (by decide))
            clear hd hu
            exact runq_val (W' := W) (by simp [execOp, hA.const, d4, go_sem]) (Below.refl _ _) rfl
          case send =>
            intro val WZ hE hzz hv
            obtain ⟨-, -, -, -, -, -, -, -, -, -, -, -, -, r13, -⟩ := hv
            have r13' : val 13 = .bool false := r13
            simp only [putD, r13']
            go_frame
            have hEX2 : Ext Y2 WZ := hE
            have k5 := cell_ext hEX2 k4
            have hz5 := World.block_lt_of_cell? _ _ k5
            simp only at hz5
            have HSZ := Lib.hid (HSX.out.ext hEX2)
            have HXZ := Lib.hid (HXX.out.ext hEX2)
            have HRZ := Lib.hid (HRX.out.trans' hEX2)
            clear r13 r13' hE hzz hEX2 k4 hd2 hx2





            go_upto_region 15 with (fail)
            obtain ⟨t, ht0, ht1, ht2, ht3, ht4⟩ := circ_behind V.out HXW.out HXC.out (by rw [HXN.out]; omega)
            rw [HXN.out] at ht2
            have HT0 := Lib.hid ht0
            have HT1 := Lib.hid ht1
            have HT2 := Lib.hid ht2
            have HT3 := Lib.hid ht3
            have HT4 := Lib.hid ht4
            clear ht0 ht1 ht2 ht3 ht4
            refine wp_region_rove (WZ.heap.size) (Nat.le_refl _)
              [sqV (.agg #[.slice sa ks.length cap]),
               sqV (.agg #[.slice sa ks.length cap]),
               sqW (fun v W => IsInts W .i64 v (zeroS ks)) (fun _ _ _ h e => IsInts.ext e h),
               sqV (.slice (some ⟨vb, vo, none⟩) n vc),
               sqW (fun v W => PlyP t n W v) (fun _ _ _ h e => PlyP.ext e h),
               sqW (fun v W => PlyP t n W v) (fun _ _ _ h e => PlyP.ext e h),
               sqW (fun v W => IsInts W .i64 v t) (fun _ _ _ h e => IsInts.ext e h),
               sqV (.int .i64 n),
               sqV (.int .i64 0),
               sqW (fun v W => IsInts W .i64 v t) (fun _ _ _ h e => IsInts.ext e h),
               sqV (.int .i64 n),
               sqV (.int .i64 0)]
              [true, true, false, true, false, false, false, true, true, false, true, true] [false, false, false, false, false, false, false, false, false, false, false, false] [true, true, true, true, true, true, true, true, true, true, true, true] [true, true, true, true, true, true, true, true, true, true, true, true]
              (by kernel_rfl) (by kernel_rfl) (by decide +kernel) (by decide +kernel) (by decide +kernel) rfl ⟨rfl, rfl⟩ ⟨?s0, ?s1, ?s2, ?s3, ?s4, ?s5, ?s6, ?s7, ?s8, ?s9, ?s10, ?s11, trivial⟩ [some 107, some 108, some 109, some 110, some 111, some 106, some 112, some 113, some 114, some 12, some 13, some 8] rfl rfl ?send
            case s0 =>
              intro val ρ W hE hz hd hA hx
              have o0 : ρ (.tmp 3) = .pointer (some ⟨w.heap.size, 0, none⟩) := hA.old 3 (by decide)
              have f_k5 := cell_below hE (by simp only; omega) k5
              clear hd
              exact runq_val (W' := W) (by simp [execOp, o0, f_k5, go_sem]) (Below.refl _ _) rfl
            case s1 =>
              intro val ρ W hE hz hd hA hx
              have o0 : ρ (.tmp 3) = .pointer (some ⟨w.heap.size, 0, none⟩) := hA.old 3 (by decide)
              have f_k5 := cell_below hE (by simp only; omega) k5
              clear hd
              exact runq_val (W' := W) (by simp [execOp, o0, f_k5, go_sem]) (Below.refl _ _) rfl
            case s3 =>
              intro val ρ W hE hz hd hA hx
              have o0 : ρ (.tmp 11) = .slice (some ⟨vb, vo, none⟩) n vc := hA.old 11 (by decide)
              clear hd
              exact runq_val (W' := W) (by simp [execOp, o0, go_sem]) (Below.refl _ _) rfl
            case s10 =>
              intro val ρ W hE hz hd hA hx
              have d7 : ρ (.tmp 113) = .int .i64 n := (hA.dep 7 (by decide) 113 rfl).trans (hd 7 (by decide))
              clear hd
              exact runq_val (W' := W) (by simp [execOp, d7, go_sem]) (Below.refl _ _) rfl
            case s11 =>
              intro val ρ W hE hz hd hA hx
              have d8 : ρ (.tmp 114) = .int .i64 0 := (hA.dep 8 (by decide) 114 rfl).trans (hd 8 (by decide))
              clear hd
              exact runq_val (W' := W) (by simp [execOp, d8, go_sem]) (Below.refl _ _) rfl
            case s2 =>
              intro val ρ W hE hz hd hA hx
              have d1 : ρ (.tmp 108) = .agg #[.slice sa ks.length cap] := (hA.dep 1 (by decide) 108 rfl).trans (hd 1 (by decide))
              clear hd
              refine runq_call 54 _ _ rfl #[.agg #[.slice sa ks.length cap]] (hA.func _) (by simp [d1]) (fun args W => Try.call54 args W) ((emptyR_any ks _ W (HSZ.out.ext hE) (by omega)).mono ?_)
              rintro e w' ⟨g, rfl, hb, -, hN⟩
              exact ⟨_, rfl, hb, hN.zero (by omega)⟩
            case s4 =>
              intro val ρ W hE hz hd hA hx
              have d0 : ρ (.tmp 107) = .agg #[.slice sa ks.length cap] := (hA.dep 0 (by decide) 107 rfl).trans (hd 0 (by decide))
              have q2 : IsInts W .i64 (val 2) (zeroS ks) := hd 2 (by decide)
              have d2 : ρ (.tmp 109) = val 2 := hA.dep 2 (by decide) 109 rfl
              have d3 : ρ (.tmp 110) = .slice (some ⟨vb, vo, none⟩) n vc := (hA.dep 3 (by decide) 110 rfl).trans (hd 3 (by decide))
              clear hd
              refine runq_call 26 _ _ rfl #[.agg #[.slice sa ks.length cap], val 2, .slice (some ⟨vb, vo, none⟩) n vc] (hA.func _) (by simp [d0, d2, d3]) (fun args W => Try.call26 args W) ((play_any ks (zeroS ks) X _ _ _ W (HSZ.out.ext hE) q2 (HXZ.out.ext hE)).mono ?_)
              rintro e w' ⟨r, rfl, hb, hi⟩
              rw [HT1.out, HT2.out]
              exact ⟨_, rfl, hb, r, rfl, by rw [← HT3.out]; exact hi⟩
            case s5 =>
              intro val ρ W hE hz hd hA hx
              obtain ⟨r, h1, h2⟩ : PlyP t n W (val 4) := hd 4 (by decide)
              have dd : ρ (.tmp 111) = .tuple #[r, .int .i64 n, .int .i64 0] := (hA.dep 4 (by decide) 111 rfl).trans h1
              exact runq_val (W' := W) (v := .tuple #[r, .int .i64 n, .int .i64 0]) (by simp [execOp, dd, go_sem]) (Below.refl _ _) ⟨r, rfl, h2⟩
            case s6 =>
              intro val ρ W hE hz hd hA hx
              obtain ⟨r, h1, h2⟩ : PlyP t n W (val 5) := hd 5 (by decide)
              have dd : ρ (.tmp 106) = .tuple #[r, .int .i64 n, .int .i64 0] := (hA.dep 5 (by decide) 106 rfl).trans h1
              exact runq_val (W' := W) (v := r) (by simp [execOp, dd, go_sem]) (Below.refl _ _) h2
            case s7 =>
              intro val ρ W hE hz hd hA hx
              obtain ⟨r, h1, h2⟩ : PlyP t n W (val 5) := hd 5 (by decide)
              have dd : ρ (.tmp 106) = .tuple #[r, .int .i64 n, .int .i64 0] := (hA.dep 5 (by decide) 106 rfl).trans h1
              exact runq_val (W' := W) (v := .int .i64 n) (by simp [execOp, dd, go_sem]) (Below.refl _ _) rfl
            case s8 =>
              intro val ρ W hE hz hd hA hx
              obtain ⟨r, h1, h2⟩ : PlyP t n W (val 5) := hd 5 (by decide)
              have dd : ρ (.tmp 106) = .tuple #[r, .int .i64 n, .int .i64 0] := (hA.dep 5 (by decide) 106 rfl).trans h1
              exact runq_val (W' := W) (v := .int .i64 0) (by simp [execOp, dd, go_sem]) (Below.refl _ _) rfl
            case s9 =>
              intro val ρ W hE hz hd hA hx
              have q6 : IsInts W .i64 (val 6) t := hd 6 (by decide)
              have d6 : ρ (.tmp 112) = val 6 := hA.dep 6 (by decide) 112 rfl
              exact runq_val (W' := W) (v := val 6) (by simp [execOp, d6, go_sem]) (Below.refl _ _) q6
            case send =>
              intro val WQ hE hzz hv
              obtain ⟨-, -, -, -, -, -, -, -, -, q9, q10, q11, -⟩ := hv
              have q10' : val 10 = .int .i64 n := q10
              have q11' : val 11 = .int .i64 0 := q11
              replace q9 : IsInts WQ .i64 (val 9) t := q9
              obtain ⟨ta, tc, e9, -⟩ := q9.spec
              rw [e9] at q9
              simp only [putD, e9, q10', q11']
              go_frame
              have hEQ : Ext WZ WQ := hE
              have k6 := cell_ext hEQ k5
              have hz6 := World.block_lt_of_cell? _ _ k6
              simp only at hz6
              have HSQ := Lib.hid (HSZ.out.ext hEQ)
              have HTQ := Lib.hid q9
              have HRQ := Lib.hid (HRZ.out.trans' hEQ)
              clear hE hzz hEQ q9 q10 q10' q11 q11' e9 k5 hz5





              go_wp2_with fail
              refine callW (W0 := WQ) (g := ⟨WQ, Below.refl _ _⟩) (by exact (by repeat (first | exact Below.refl _ _ | refine Ext.al ?_ _ | refine Ext.dr ?_ | refine Ext.drN ?_ _ | refine Ext.gr ?_ _ | refine Ext.set ?_ (by simp) _ | (refine Ext.trans' ?_ (by assumption))))) (statedR_any ks t _ _ _ (HSQ.out.ext (by exact (by repeat (first | exact Below.refl _ _ | refine Ext.al ?_ _ | refine Ext.dr ?_ | refine Ext.drN ?_ _ | refine Ext.gr ?_ _ | refine Ext.set ?_ (by simp) _ | (refine Ext.trans' ?_ (by assumption)))))) (HTQ.out.ext (by exact (by repeat (first | exact Below.refl _ _ | refine Ext.al ?_ _ | refine Ext.dr ?_ | refine Ext.drN ?_ _ | refine Ext.gr ?_ _ | refine Ext.set ?_ (by simp) _ | (refine Ext.trans' ?_ (by assumption))))))) fun g1 hgr => ?_
              clear hgr
              rw [stErr_of V.out HT0.out]
              go_wp2_with fail
              refine callWR (W0 := WQ) (g := g1) (by exact (by repeat (first | exact Below.refl _ _ | refine Ext.al ?_ _ | refine Ext.dr ?_ | refine Ext.drN ?_ _ | refine Ext.gr ?_ _ | refine Ext.set ?_ (by simp) _ | (refine Ext.trans' ?_ (by assumption))))) (doomF_any ks t _ _ _ (HSQ.out.ext (by exact (by repeat (first | exact Below.refl _ _ | refine Ext.al ?_ _ | refine Ext.dr ?_ | refine Ext.drN ?_ _ | refine Ext.gr ?_ _ | refine Ext.set ?_ (by simp) _ | (refine Ext.trans' ?_ (by assumption)))))) (HTQ.out.ext (by exact (by repeat (first | exact Below.refl _ _ | refine Ext.al ?_ _ | refine Ext.dr ?_ | refine Ext.drN ?_ _ | refine Ext.gr ?_ _ | refine Ext.set ?_ (by simp) _ | (refine Ext.trans' ?_ (by assumption))))))) (fun _ _ ⟨_, _, _, r, _⟩ => r) fun _ g2 hgr hr => ?_
              obtain ⟨x, dl, rfl, -, hI, -, -⟩ := hr
              clear hgr
              obtain ⟨a5, c5, rfl, -, -⟩ := hI.spec
              clear hI
              rw [HT4.out]
              go_wp2_with fail
              refine callW (W0 := WQ) (g := g2) (by exact (by repeat (first | exact Below.refl _ _ | refine Ext.al ?_ _ | refine Ext.dr ?_ | refine Ext.drN ?_ _ | refine Ext.gr ?_ _ | refine Ext.set ?_ (by simp) _ | (refine Ext.trans' ?_ (by assumption))))) (works_any _) fun g3 hgr => ?_
              clear hgr
              go_wp2_with fail
              go_ret
              exact ⟨rfl, HRQ.out.trans' (grow_below WQ g3)⟩

    · have f1 : (ge == 0) = false := by simpa using hg0
      have f2 : (ge != 0) = true := by simpa using hg0
      clear hge2 hg0
      go_upto_region 10 with (fail)
      obtain ⟨U1, hU1⟩ : ∃ zz9, zz9 = (grow WW g2) := ⟨_, rfl⟩
      have eU1 : Ext WW U1 := by rw [hU1]; exact (by repeat (first | exact Below.refl _ _ | refine Ext.al ?_ _ | refine Ext.dr ?_ | refine Ext.drN ?_ _ | refine Ext.gr ?_ _ | refine Ext.set ?_ (by simp) _ | (refine Ext.trans' ?_ (by assumption))))
      have eU1c : Ext (grow WW g2) U1 := by rw [hU1]; exact (by repeat (first | exact Below.refl _ _ | refine Ext.al ?_ _ | refine Ext.dr ?_ | refine Ext.drN ?_ _ | refine Ext.gr ?_ _ | refine Ext.set ?_ (by simp) _ | (refine Ext.trans' ?_ (by assumption))))
      replace k2 := cell_ext eU1 k2
      replace HSY := Lib.hid (HSY.out.ext eU1)
      replace HIY := Lib.hid (HIY.out.ext eU1)
      replace HDR := Lib.hid (HDR.out.ext eU1c)
      replace HR := Lib.hid (HR.out.trans' eU1)
      rw [← hU1]
      replace hz2 := World.block_lt_of_cell? _ _ k2
      clear hU1 eU1 eU1c
      obtain ⟨Y1, hY1⟩ : ∃ Y1, Y1 = U1 := ⟨_, rfl⟩
      subst hY1
      refine wp_region_rove_tail rfl rfl (by kernel_rfl) (Y1.heap.size) (Nat.le_refl _)
        [sqW (fun v W => IsNew W (Y1.heap.size) 3 1 v) (fun _ _ _ h e => h.ext e),
         sqV (.slice (some ⟨b, off, none⟩) n c1),
         sqV (.int .i64 K),
         sqV (.slice (some ⟨b, off + K, none⟩) (n - K) (c1 - K)),
         sqW (fun v W => Owns W Y1.heap.size 3 1 v ((l.drop K).map iRow)) (fun _ _ _ h e => h.ext e),
         sqV (.slice (some ⟨b, off, none⟩) n c1),
         sqV (.int .i64 K),
         sqV (.slice (some ⟨b, off, none⟩) K c1),
         sqW (fun v W => Owns W Y1.heap.size 3 1 v ((l.drop K).map iRow ++ (l.take K).map iRow)) (fun _ _ _ h e => h.ext e)]
        [false, true, true, true, false, true, true, true, false] [false, false, false, false, false, false, false, false, true] [false, true, true, true, false, true, true, true, true] [true, true, true, true, true, true, true, true, true]
        (by kernel_rfl) (by kernel_rfl) (by decide +kernel) (by decide +kernel) (by decide +kernel) rfl ⟨rfl, rfl⟩ ⟨?s0, ?s1, ?s2, ?s3, ?s4, ?s5, ?s6, ?s7, ?s8, trivial⟩ [some 79, some 80, some 81, some 82, some 83, some 84, some 85, some 86, some 87] rfl rfl ?send
      case s0 =>
        intro val ρ W hE hz hd hA hx
        exact runq_val (W' := W.alloc (.cells #[] 3)) (v := .slice (some ⟨W.heap.size, 0, none⟩) 0 0) (by simp [execOp, go_sem]) (by repeat (first | exact Below.refl _ _ | refine Ext.al ?_ _ | refine Ext.dr ?_ | refine Ext.drN ?_ _ | refine Ext.gr ?_ _ | refine Ext.set ?_ (by simp) _ | (refine Ext.trans' ?_ (by assumption)))) (isNew W _ _ _ (by omega))
      case s1 =>
        intro val ρ W hE hz hd hA hx
        have o0 : ρ (.tmp 7) = .slice (some ⟨b, off, none⟩) n c1 := hA.old 7 (by decide)
        clear hd
        exact runq_val (W' := W) (by simp [execOp, o0, go_sem]) (Below.refl _ _) rfl
      case s2 =>
        intro val ρ W hE hz hd hA hx
        have o0 : ρ (.tmp 10) = .int .i64 K := hA.old 10 (by decide)
        clear hd
        exact runq_val (W' := W) (by simp [execOp, o0, go_sem]) (Below.refl _ _) rfl
      case s3 =>
        intro val ρ W hE hz hd hA hx
        have d1 : ρ (.tmp 80) = .slice (some ⟨b, off, none⟩) n c1 := (hA.dep 1 (by decide) 80 rfl).trans (hd 1 (by decide))
        have d2 : ρ (.tmp 81) = .int .i64 K := (hA.dep 2 (by decide) 81 rfl).trans (hd 2 (by decide))
        clear hd
        exact runq_val (W' := W) (by simp [execOp, d1, d2, hKl, hKc, go_sem]) (Below.refl _ _) rfl
      case s5 =>
        intro val ρ W hE hz hd hA hx
        have o0 : ρ (.tmp 7) = .slice (some ⟨b, off, none⟩) n c1 := hA.old 7 (by decide)
        clear hd
        exact runq_val (W' := W) (by simp [execOp, o0, go_sem]) (Below.refl _ _) rfl
      case s6 =>
        intro val ρ W hE hz hd hA hx
        have o0 : ρ (.tmp 10) = .int .i64 K := hA.old 10 (by decide)
        clear hd
        exact runq_val (W' := W) (by simp [execOp, o0, go_sem]) (Below.refl _ _) rfl
      case s7 =>
        intro val ρ W hE hz hd hA hx
        have d5 : ρ (.tmp 84) = .slice (some ⟨b, off, none⟩) n c1 := (hA.dep 5 (by decide) 84 rfl).trans (hd 5 (by decide))
        have d6 : ρ (.tmp 85) = .int .i64 K := (hA.dep 6 (by decide) 85 rfl).trans (hd 6 (by decide))
        clear hd
        exact runq_val (W' := W) (by simp [execOp, d5, d6, hKc2, go_sem]) (Below.refl _ _) rfl
      case s4 =>
        intro val ρ W hE hz hd hA hx
        have d0 : IsNew W Y1.heap.size 3 1 (val 0) := hd 0 (by decide)
        have e0 : ρ (.tmp 79) = val 0 := hA.dep 0 (by decide) 79 rfl
        have d2 : ρ (.tmp 82) = .slice (some ⟨b, off + K, none⟩) (n - K) (c1 - K) := (hA.dep 3 (by decide) 82 rfl).trans (hd 3 (by decide))
        clear hd
        have hb1 : ((l.drop K).map iRow).length ≤ 1000000 := by rw [List.length_map, List.length_drop, ← HN.out]; omega
        have hS : IsRows W 1 (.slice (some ⟨b, off + K, none⟩) (n - K) (c1 - K)) ((l.drop K).map iRow) := HDR.out.ext hE
        obtain ⟨v', w', hrun, ho, he⟩ := app_new elInt 22 _ d0 ((l.drop K).map iRow) ints_len hS ints_one hb1 hz
        exact runq_append (.tmp 79) (.tmp 82) rfl rfl _ _ e0 d2 hrun he ho
      case s8 =>
        intro val ρ W hE hz hd hA hx
        have d3 : Owns W Y1.heap.size 3 1 (val 4) ((l.drop K).map iRow) := hd 4 (by decide)
        have e3 : ρ (.tmp 83) = val 4 := hA.dep 4 (by decide) 83 rfl
        have e5 : ρ (.tmp 86) = .slice (some ⟨b, off, none⟩) ((l.take K).map iRow).length c1 := (hA.dep 7 (by decide) 86 rfl).trans ((hd 7 (by decide)).trans (by rw [List.length_map, List.length_take, ← HN.out, Nat.min_eq_left (by omega)]))
        have hR : RowsAt W 1 b off ((l.take K).map iRow) := by
          have := (ints_rows (HIY.out.ext hE)).take K
          rwa [← List.map_take] at this
        obtain ⟨v', w', hrun, ho, hb⟩ := app_run elInt 22 Y1.heap.size d3 b off c1 ((l.take K).map iRow) ints_len hR ints_one (by rw [List.length_map, List.length_map, List.length_drop, List.length_take, ← HN.out]; omega) hz
        exact runq_append (.tmp 83) (.tmp 86) rfl rfl _ _ e3 e5 hrun hb ho
      case send =>
        intro val WX hE hzz hv
        obtain ⟨-, -, -, -, -, -, -, -, r8, -⟩ := hv
        have q8 : Owns WX Y1.heap.size 3 1 (val 8) ((l.drop K).map iRow ++ (l.take K).map iRow) := r8
        rw [← List.map_append, ← HXL.out] at q8
        have hi8 := q8.oneInts
        obtain ⟨va, vc, e8, -, -, hcc⟩ := hi8.spec
        obtain ⟨vb, vo, rfl⟩ : ∃ vb vo, va = some ⟨vb, vo, none⟩ := by
          rcases hcc with hcc | ⟨b2, o2, hb2, -⟩
          · have h0 := HXN.out
            rw [hcc] at h0
            simp at h0; omega
          · exact ⟨b2, o2, hb2⟩
        clear hcc
        rw [e8] at hi8
        rw [HXN.out] at hi8 e8
        simp only [putD, e8]
        go_frame
        have hEX : Ext Y1 WX := hE
        have k4 := cell_ext hEX k2
        have hz4 := World.block_lt_of_cell? _ _ k4
        simp only at hz4
        have HSX := Lib.hid (HSY.out.ext hEX)
        have HXX := Lib.hid hi8
        have HRX := Lib.hid (HR.out.trans' hEX)
        clear r8 q8 hi8 e8 hE hzz hEX k2





        go_wp2_with fail
        refine callW (W0 := WX) (g := ⟨WX, Below.refl _ _⟩) (by exact (by repeat (first | exact Below.refl _ _ | refine Ext.al ?_ _ | refine Ext.dr ?_ | refine Ext.drN ?_ _ | refine Ext.gr ?_ _ | refine Ext.set ?_ (by simp) _ | (refine Ext.trans' ?_ (by assumption))))) (checkCircle_any ks X _ _ _ (HSX.out.ext (by exact (by repeat (first | exact Below.refl _ _ | refine Ext.al ?_ _ | refine Ext.dr ?_ | refine Ext.drN ?_ _ | refine Ext.gr ?_ _ | refine Ext.set ?_ (by simp) _ | (refine Ext.trans' ?_ (by assumption)))))) (HXX.out.ext (by exact (by repeat (first | exact Below.refl _ _ | refine Ext.al ?_ _ | refine Ext.dr ?_ | refine Ext.drN ?_ _ | refine Ext.gr ?_ _ | refine Ext.set ?_ (by simp) _ | (refine Ext.trans' ?_ (by assumption))))))) fun g1 hgr => ?_
        clear hgr
        rw [HXE.out]
        have hx2 : IntKind.i64.wrap (2 * (n : Int)) = 2 * (n : Int) := IntWalk.i64_in _ (by omega)

        by_cases h2n : 2 * (n : Int) ≤ 1000
        · have hd2 : decide (2 * (n : Int) ≤ 1000) = true := decide_eq_true h2n
          have hxx0 : X ++ X ≠ [] := fun h => by
            have h0 := HXN.out
            rw [(List.append_eq_nil_iff.1 h).1] at h0
            simp at h0; omega
          have HX2 := Lib.hid (circErr_of V.out hxx0 (by rw [List.length_append, HXN.out]; omega) (fun x hx => (List.mem_append.1 hx).elim (HXW.out x) (HXW.out x)) (circ_two V.out HXW.out HXC.out))
          clear hxx0
          go_upto_region 13 with (fail)
          obtain ⟨U2, hU2⟩ : ∃ zz9, zz9 = (grow WX g1) := ⟨_, rfl⟩
          have eU2 : Ext WX U2 := by rw [hU2]; exact (by repeat (first | exact Below.refl _ _ | refine Ext.al ?_ _ | refine Ext.dr ?_ | refine Ext.drN ?_ _ | refine Ext.gr ?_ _ | refine Ext.set ?_ (by simp) _ | (refine Ext.trans' ?_ (by assumption))))
          replace k4 := cell_ext eU2 k4
          replace HSX := Lib.hid (HSX.out.ext eU2)
          replace HXX := Lib.hid (HXX.out.ext eU2)
          replace HRX := Lib.hid (HRX.out.trans' eU2)
          rw [← hU2]
          replace hz4 := World.block_lt_of_cell? _ _ k4
          clear hU2 eU2
          obtain ⟨Y2, hY2⟩ : ∃ Y2, Y2 = U2 := ⟨_, rfl⟩
          subst hY2
          refine wp_region_roveG (Y2.heap.size) (Nat.le_refl _)
            [sqV (.slice (some ⟨b, off, none⟩) n c1),
             sqV (.int .i64 n),
             sqV (.int .i64 (2 * (n : Int))),
             sqV (.bool true),
             sqV (.bool true),
             sqV (.agg #[.slice sa ks.length cap]),
             sqW (fun v W => IsNew W (Y2.heap.size) 3 1 v) (fun _ _ _ h e => h.ext e),
             sqV (.slice (some ⟨vb, vo, none⟩) n vc),
             sqW (fun v W => Owns W Y2.heap.size 3 1 v (X.map iRow)) (fun _ _ _ h e => h.ext e),
             sqV (.slice (some ⟨vb, vo, none⟩) n vc),
             sqW (fun v W => Owns W Y2.heap.size 3 1 v (X.map iRow ++ X.map iRow)) (fun _ _ _ h e => h.ext e),
             sqV (.int .i64 0),
             sqV (.bool false),
             sqV (.bool false)]
            [true, true, true, true, true, true, false, true, false, true, false, true, true, true] [false, false, false, false, false, false, false, false, false, false, true, false, false, false] [true, true, true, true, true, true, false, true, false, true, true, true, true, true] [true, true, true, true, true, false, true, true, true, true, true, false, false, false] [true, true, true, true, true, true, true, true, true, true, true, true, true, true] [none, none, none, some true, some true, none, none, none, none, none, none, none, some false, some false]
            (by kernel_rfl) (by kernel_rfl) (by decide +kernel) ⟨fun _ _ _ h => h, ⟨fun _ _ _ h => h, ⟨fun _ _ _ h => h, ⟨fun _ _ _ h => h, trivial⟩⟩⟩⟩ (by decide +kernel) (by decide +kernel) (by decide +kernel) rfl ⟨rfl, rfl, rfl⟩ ⟨?s0, ?s1, ?s2, ?s3, ?s4, ?s5, ?s6, ?s7, ?s8, ?s9, ?s10, ?s11, ?s12, ?s13, trivial⟩ [some 92, some 93, some 94, some 95, some 96, some 97, some 98, some 99, some 100, some 101, some 102, some 103, some 104, some 105] rfl rfl ?send
          case s0 =>
            intro val ρ W hE hz hd hu hA hx
            have o0 : ρ (.tmp 7) = .slice (some ⟨b, off, none⟩) n c1 := hA.old 7 (by decide)
            clear hd hu
            exact runq_val (W' := W) (by simp [execOp, o0, go_sem]) (Below.refl _ _) rfl
          case s1 =>
            intro val ρ W hE hz hd hu hA hx
            have d0 : ρ (.tmp 92) = .slice (some ⟨b, off, none⟩) n c1 := (hA.dep 0 (by decide) 92 rfl).trans (hd 0 (by decide))
            clear hd hu
            exact runq_val (W' := W) (by simp [execOp, d0, go_sem]) (Below.refl _ _) rfl
          case s2 =>
            intro val ρ W hE hz hd hu hA hx
            have d1 : ρ (.tmp 93) = .int .i64 n := (hA.dep 1 (by decide) 93 rfl).trans (hd 1 (by decide))
            clear hd hu
            exact runq_val (W' := W) (by simp [execOp, hA.const, d1, hx2, go_sem]) (Below.refl _ _) rfl
          case s3 =>
            intro val ρ W hE hz hd hu hA hx
            have d2 : ρ (.tmp 94) = .int .i64 (2 * (n : Int)) := (hA.dep 2 (by decide) 94 rfl).trans (hd 2 (by decide))
            clear hd hu
            exact runq_val (W' := W) (by simp [execOp, hA.const, d2, hd2, go_sem]) (Below.refl _ _) rfl
          case s4 =>
            intro val ρ W hE hz hd hu hA hx
            have d3 : ρ (.tmp 95) = .bool true := (hA.dep 3 (by decide) 95 rfl).trans (hd 3 (by decide))
            clear hd hu
            exact runq_val (W' := W) (by simp [execOp, d3, go_sem]) (Below.refl _ _) rfl
          case s5 =>
            intro val ρ W hE hz hd hu hA hx
            have o0 : ρ (.tmp 3) = .pointer (some ⟨w.heap.size, 0, none⟩) := hA.old 3 (by decide)
            have f_k4 := cell_below hE (by simp only; omega) k4
            clear hd hu
            exact runq_val (W' := W) (by simp [execOp, o0, f_k4, go_sem]) (Below.refl _ _) rfl
          case s6 =>
            intro val ρ W hE hz hd hu hA hx
            exact runq_val (W' := W.alloc (.cells #[] 3)) (v := .slice (some ⟨W.heap.size, 0, none⟩) 0 0) (by simp [execOp, go_sem]) (by repeat (first | exact Below.refl _ _ | refine Ext.al ?_ _ | refine Ext.dr ?_ | refine Ext.drN ?_ _ | refine Ext.gr ?_ _ | refine Ext.set ?_ (by simp) _ | (refine Ext.trans' ?_ (by assumption)))) (isNew W _ _ _ (by omega))
          case s7 =>
            intro val ρ W hE hz hd hu hA hx
            have o0 : ρ (.tmp 11) = .slice (some ⟨vb, vo, none⟩) n vc := hA.old 11 (by decide)
            clear hd hu
            exact runq_val (W' := W) (by simp [execOp, o0, go_sem]) (Below.refl _ _) rfl
          case s9 =>
            intro val ρ W hE hz hd hu hA hx
            have o0 : ρ (.tmp 11) = .slice (some ⟨vb, vo, none⟩) n vc := hA.old 11 (by decide)
            clear hd hu
            exact runq_val (W' := W) (by simp [execOp, o0, go_sem]) (Below.refl _ _) rfl
          case s12 =>
            intro val ρ W hE hz hd hu hA hx
            have d11 : ρ (.tmp 103) = .int .i64 0 := (hA.dep 11 (by decide) 103 rfl).trans (hd 11 (by decide))
            clear hd hu
            exact runq_val (W' := W) (by simp [execOp, hA.const, d11, go_sem]) (Below.refl _ _) rfl
          case s13 =>
            intro val ρ W hE hz hd hu hA hx
            have d4 : ρ (.tmp 96) = .bool true := (hA.dep 4 (by decide) 96 rfl).trans (hd 4 (by decide))
            have d12 : ρ (.tmp 104) = .bool false := (hA.dep 12 (by decide) 104 rfl).trans (hd 12 (by decide))
            clear hd hu
            exact runq_val (W' := W) (by simp [execOp, hA.const, d4, d12, go_sem]) (Below.refl _ _) rfl
          case s8 =>
            intro val ρ W hE hz hd hu hA hx
            have d0 : IsNew W Y2.heap.size 3 1 (val 6) := hd 6 (by decide)
            have e0 : ρ (.tmp 98) = val 6 := hA.dep 6 (by decide) 98 rfl
            have d2 : ρ (.tmp 99) = .slice (some ⟨vb, vo, none⟩) n vc := (hA.dep 7 (by decide) 99 rfl).trans (hd 7 (by decide))
            clear hd hu
            have hb1 : (X.map iRow).length ≤ 1000000 := by rw [List.length_map, HXN.out]; omega
            have hS : IsRows W 1 (.slice (some ⟨vb, vo, none⟩) n vc) (X.map iRow) := HXX.out.ext hE
            obtain ⟨v', w', hrun, ho, he⟩ := app_new elInt 22 _ d0 (X.map iRow) ints_len hS ints_one hb1 hz
            exact runq_append (.tmp 98) (.tmp 99) rfl rfl _ _ e0 d2 hrun he ho
          case s10 =>
            intro val ρ W hE hz hd hu hA hx
            have d3 : Owns W Y2.heap.size 3 1 (val 8) (X.map iRow) := hd 8 (by decide)
            have e3 : ρ (.tmp 100) = val 8 := hA.dep 8 (by decide) 100 rfl
            have e5 : ρ (.tmp 101) = .slice (some ⟨vb, vo, none⟩) (X.map iRow).length vc := (hA.dep 9 (by decide) 101 rfl).trans ((hd 9 (by decide)).trans (by rw [List.length_map, HXN.out]))
            clear hd hu
            have hR : RowsAt W 1 vb vo (X.map iRow) := ints_rows (HXX.out.ext hE)
            obtain ⟨v', w', hrun, ho, hb⟩ := app_run elInt 22 Y2.heap.size d3 vb vo vc (X.map iRow) ints_len hR ints_one (by rw [List.length_map, HXN.out]; omega) hz
            exact runq_append (.tmp 100) (.tmp 101) rfl rfl _ _ e3 e5 hrun hb ho
          case s11 =>
            intro val ρ W hE hz hd hu hA hx
            have d5 : ρ (.tmp 97) = .agg #[.slice sa ks.length cap] := (hA.dep 5 (by decide) 97 rfl).trans (hd 5 (by decide))
            have q10 : Owns W Y2.heap.size 3 1 (val 10) (X.map iRow ++ X.map iRow) := hd 10 (by decide)
            have d10 : ρ (.tmp 102) = val 10 := hA.dep 10 (by decide) 102 rfl
            clear hd hu
            rw [← List.map_append] at q10
            have hI := q10.oneInts
            refine runq_call 28 _ _ rfl #[.agg #[.slice sa ks.length cap], val 10] (hA.func _) (by simp [d5, d10]) (fun args W => Try.call28 args W) ((checkCircle_any ks (X ++ X) _ _ W (HSX.out.ext hE) hI).mono ?_)
            rintro e w' ⟨rfl, hb⟩
            rw [HX2.out]
            exact ⟨_, rfl, hb, rfl⟩
          case send =>
            intro val WZ hE hzz hv
            obtain ⟨-, -, -, -, -, -, -, -, -, -, -, -, -, r13, -⟩ := hv
            have r13' : val 13 = .bool false := r13
            simp only [putD, r13']
            go_frame
            have hEX2 : Ext Y2 WZ := hE
            have k5 := cell_ext hEX2 k4
            have hz5 := World.block_lt_of_cell? _ _ k5
            simp only at hz5
            have HSZ := Lib.hid (HSX.out.ext hEX2)
            have HXZ := Lib.hid (HXX.out.ext hEX2)
            have HRZ := Lib.hid (HRX.out.trans' hEX2)
            clear r13 r13' hE hzz hEX2 k4 hd2 h2n hx2 HX2





            go_upto_region 15 with (fail)
            obtain ⟨t, ht0, ht1, ht2, ht3, ht4⟩ := circ_behind V.out HXW.out HXC.out (by rw [HXN.out]; omega)
            rw [HXN.out] at ht2
            have HT0 := Lib.hid ht0
            have HT1 := Lib.hid ht1
            have HT2 := Lib.hid ht2
            have HT3 := Lib.hid ht3
            have HT4 := Lib.hid ht4
            clear ht0 ht1 ht2 ht3 ht4
            refine wp_region_rove (WZ.heap.size) (Nat.le_refl _)
              [sqV (.agg #[.slice sa ks.length cap]),
               sqV (.agg #[.slice sa ks.length cap]),
               sqW (fun v W => IsInts W .i64 v (zeroS ks)) (fun _ _ _ h e => IsInts.ext e h),
               sqV (.slice (some ⟨vb, vo, none⟩) n vc),
               sqW (fun v W => PlyP t n W v) (fun _ _ _ h e => PlyP.ext e h),
               sqW (fun v W => PlyP t n W v) (fun _ _ _ h e => PlyP.ext e h),
               sqW (fun v W => IsInts W .i64 v t) (fun _ _ _ h e => IsInts.ext e h),
               sqV (.int .i64 n),
               sqV (.int .i64 0),
               sqW (fun v W => IsInts W .i64 v t) (fun _ _ _ h e => IsInts.ext e h),
               sqV (.int .i64 n),
               sqV (.int .i64 0)]
              [true, true, false, true, false, false, false, true, true, false, true, true] [false, false, false, false, false, false, false, false, false, false, false, false] [true, true, true, true, true, true, true, true, true, true, true, true] [true, true, true, true, true, true, true, true, true, true, true, true]
              (by kernel_rfl) (by kernel_rfl) (by decide +kernel) (by decide +kernel) (by decide +kernel) rfl ⟨rfl, rfl⟩ ⟨?s0, ?s1, ?s2, ?s3, ?s4, ?s5, ?s6, ?s7, ?s8, ?s9, ?s10, ?s11, trivial⟩ [some 107, some 108, some 109, some 110, some 111, some 106, some 112, some 113, some 114, some 12, some 13, some 8] rfl rfl ?send
            case s0 =>
              intro val ρ W hE hz hd hA hx
              have o0 : ρ (.tmp 3) = .pointer (some ⟨w.heap.size, 0, none⟩) := hA.old 3 (by decide)
              have f_k5 := cell_below hE (by simp only; omega) k5
              clear hd
              exact runq_val (W' := W) (by simp [execOp, o0, f_k5, go_sem]) (Below.refl _ _) rfl
            case s1 =>
              intro val ρ W hE hz hd hA hx
              have o0 : ρ (.tmp 3) = .pointer (some ⟨w.heap.size, 0, none⟩) := hA.old 3 (by decide)
              have f_k5 := cell_below hE (by simp only; omega) k5
              clear hd
              exact runq_val (W' := W) (by simp [execOp, o0, f_k5, go_sem]) (Below.refl _ _) rfl
            case s3 =>
              intro val ρ W hE hz hd hA hx
              have o0 : ρ (.tmp 11) = .slice (some ⟨vb, vo, none⟩) n vc := hA.old 11 (by decide)
              clear hd
              exact runq_val (W' := W) (by simp [execOp, o0, go_sem]) (Below.refl _ _) rfl
            case s10 =>
              intro val ρ W hE hz hd hA hx
              have d7 : ρ (.tmp 113) = .int .i64 n := (hA.dep 7 (by decide) 113 rfl).trans (hd 7 (by decide))
              clear hd
              exact runq_val (W' := W) (by simp [execOp, d7, go_sem]) (Below.refl _ _) rfl
            case s11 =>
              intro val ρ W hE hz hd hA hx
              have d8 : ρ (.tmp 114) = .int .i64 0 := (hA.dep 8 (by decide) 114 rfl).trans (hd 8 (by decide))
              clear hd
              exact runq_val (W' := W) (by simp [execOp, d8, go_sem]) (Below.refl _ _) rfl
            case s2 =>
              intro val ρ W hE hz hd hA hx
              have d1 : ρ (.tmp 108) = .agg #[.slice sa ks.length cap] := (hA.dep 1 (by decide) 108 rfl).trans (hd 1 (by decide))
              clear hd
              refine runq_call 54 _ _ rfl #[.agg #[.slice sa ks.length cap]] (hA.func _) (by simp [d1]) (fun args W => Try.call54 args W) ((emptyR_any ks _ W (HSZ.out.ext hE) (by omega)).mono ?_)
              rintro e w' ⟨g, rfl, hb, -, hN⟩
              exact ⟨_, rfl, hb, hN.zero (by omega)⟩
            case s4 =>
              intro val ρ W hE hz hd hA hx
              have d0 : ρ (.tmp 107) = .agg #[.slice sa ks.length cap] := (hA.dep 0 (by decide) 107 rfl).trans (hd 0 (by decide))
              have q2 : IsInts W .i64 (val 2) (zeroS ks) := hd 2 (by decide)
              have d2 : ρ (.tmp 109) = val 2 := hA.dep 2 (by decide) 109 rfl
              have d3 : ρ (.tmp 110) = .slice (some ⟨vb, vo, none⟩) n vc := (hA.dep 3 (by decide) 110 rfl).trans (hd 3 (by decide))
              clear hd
              refine runq_call 26 _ _ rfl #[.agg #[.slice sa ks.length cap], val 2, .slice (some ⟨vb, vo, none⟩) n vc] (hA.func _) (by simp [d0, d2, d3]) (fun args W => Try.call26 args W) ((play_any ks (zeroS ks) X _ _ _ W (HSZ.out.ext hE) q2 (HXZ.out.ext hE)).mono ?_)
              rintro e w' ⟨r, rfl, hb, hi⟩
              rw [HT1.out, HT2.out]
              exact ⟨_, rfl, hb, r, rfl, by rw [← HT3.out]; exact hi⟩
            case s5 =>
              intro val ρ W hE hz hd hA hx
              obtain ⟨r, h1, h2⟩ : PlyP t n W (val 4) := hd 4 (by decide)
              have dd : ρ (.tmp 111) = .tuple #[r, .int .i64 n, .int .i64 0] := (hA.dep 4 (by decide) 111 rfl).trans h1
              exact runq_val (W' := W) (v := .tuple #[r, .int .i64 n, .int .i64 0]) (by simp [execOp, dd, go_sem]) (Below.refl _ _) ⟨r, rfl, h2⟩
            case s6 =>
              intro val ρ W hE hz hd hA hx
              obtain ⟨r, h1, h2⟩ : PlyP t n W (val 5) := hd 5 (by decide)
              have dd : ρ (.tmp 106) = .tuple #[r, .int .i64 n, .int .i64 0] := (hA.dep 5 (by decide) 106 rfl).trans h1
              exact runq_val (W' := W) (v := r) (by simp [execOp, dd, go_sem]) (Below.refl _ _) h2
            case s7 =>
              intro val ρ W hE hz hd hA hx
              obtain ⟨r, h1, h2⟩ : PlyP t n W (val 5) := hd 5 (by decide)
              have dd : ρ (.tmp 106) = .tuple #[r, .int .i64 n, .int .i64 0] := (hA.dep 5 (by decide) 106 rfl).trans h1
              exact runq_val (W' := W) (v := .int .i64 n) (by simp [execOp, dd, go_sem]) (Below.refl _ _) rfl
            case s8 =>
              intro val ρ W hE hz hd hA hx
              obtain ⟨r, h1, h2⟩ : PlyP t n W (val 5) := hd 5 (by decide)
              have dd : ρ (.tmp 106) = .tuple #[r, .int .i64 n, .int .i64 0] := (hA.dep 5 (by decide) 106 rfl).trans h1
              exact runq_val (W' := W) (v := .int .i64 0) (by simp [execOp, dd, go_sem]) (Below.refl _ _) rfl
            case s9 =>
              intro val ρ W hE hz hd hA hx
              have q6 : IsInts W .i64 (val 6) t := hd 6 (by decide)
              have d6 : ρ (.tmp 112) = val 6 := hA.dep 6 (by decide) 112 rfl
              exact runq_val (W' := W) (v := val 6) (by simp [execOp, d6, go_sem]) (Below.refl _ _) q6
            case send =>
              intro val WQ hE hzz hv
              obtain ⟨-, -, -, -, -, -, -, -, -, q9, q10, q11, -⟩ := hv
              have q10' : val 10 = .int .i64 n := q10
              have q11' : val 11 = .int .i64 0 := q11
              replace q9 : IsInts WQ .i64 (val 9) t := q9
              obtain ⟨ta, tc, e9, -⟩ := q9.spec
              rw [e9] at q9
              simp only [putD, e9, q10', q11']
              go_frame
              have hEQ : Ext WZ WQ := hE
              have k6 := cell_ext hEQ k5
              have hz6 := World.block_lt_of_cell? _ _ k6
              simp only at hz6
              have HSQ := Lib.hid (HSZ.out.ext hEQ)
              have HTQ := Lib.hid q9
              have HRQ := Lib.hid (HRZ.out.trans' hEQ)
              clear hE hzz hEQ q9 q10 q10' q11 q11' e9 k5 hz5





              go_wp2_with fail
              refine callW (W0 := WQ) (g := ⟨WQ, Below.refl _ _⟩) (by exact (by repeat (first | exact Below.refl _ _ | refine Ext.al ?_ _ | refine Ext.dr ?_ | refine Ext.drN ?_ _ | refine Ext.gr ?_ _ | refine Ext.set ?_ (by simp) _ | (refine Ext.trans' ?_ (by assumption))))) (statedR_any ks t _ _ _ (HSQ.out.ext (by exact (by repeat (first | exact Below.refl _ _ | refine Ext.al ?_ _ | refine Ext.dr ?_ | refine Ext.drN ?_ _ | refine Ext.gr ?_ _ | refine Ext.set ?_ (by simp) _ | (refine Ext.trans' ?_ (by assumption)))))) (HTQ.out.ext (by exact (by repeat (first | exact Below.refl _ _ | refine Ext.al ?_ _ | refine Ext.dr ?_ | refine Ext.drN ?_ _ | refine Ext.gr ?_ _ | refine Ext.set ?_ (by simp) _ | (refine Ext.trans' ?_ (by assumption))))))) fun g1 hgr => ?_
              clear hgr
              rw [stErr_of V.out HT0.out]
              go_wp2_with fail
              refine callWR (W0 := WQ) (g := g1) (by exact (by repeat (first | exact Below.refl _ _ | refine Ext.al ?_ _ | refine Ext.dr ?_ | refine Ext.drN ?_ _ | refine Ext.gr ?_ _ | refine Ext.set ?_ (by simp) _ | (refine Ext.trans' ?_ (by assumption))))) (doomF_any ks t _ _ _ (HSQ.out.ext (by exact (by repeat (first | exact Below.refl _ _ | refine Ext.al ?_ _ | refine Ext.dr ?_ | refine Ext.drN ?_ _ | refine Ext.gr ?_ _ | refine Ext.set ?_ (by simp) _ | (refine Ext.trans' ?_ (by assumption)))))) (HTQ.out.ext (by exact (by repeat (first | exact Below.refl _ _ | refine Ext.al ?_ _ | refine Ext.dr ?_ | refine Ext.drN ?_ _ | refine Ext.gr ?_ _ | refine Ext.set ?_ (by simp) _ | (refine Ext.trans' ?_ (by assumption))))))) (fun _ _ ⟨_, _, _, r, _⟩ => r) fun _ g2 hgr hr => ?_
              obtain ⟨x, dl, rfl, -, hI, -, -⟩ := hr
              clear hgr
              obtain ⟨a5, c5, rfl, -, -⟩ := hI.spec
              clear hI
              rw [HT4.out]
              go_wp2_with fail
              refine callW (W0 := WQ) (g := g2) (by exact (by repeat (first | exact Below.refl _ _ | refine Ext.al ?_ _ | refine Ext.dr ?_ | refine Ext.drN ?_ _ | refine Ext.gr ?_ _ | refine Ext.set ?_ (by simp) _ | (refine Ext.trans' ?_ (by assumption))))) (works_any _) fun g3 hgr => ?_
              clear hgr
              go_wp2_with fail
              go_ret
              exact ⟨rfl, HRQ.out.trans' (grow_below WQ g3)⟩

        · have hd2 : decide (2 * (n : Int) ≤ 1000) = false := decide_eq_false h2n
          clear h2n
          go_upto_region 13 with (fail)
          obtain ⟨U2, hU2⟩ : ∃ zz9, zz9 = (grow WX g1) := ⟨_, rfl⟩
          have eU2 : Ext WX U2 := by rw [hU2]; exact (by repeat (first | exact Below.refl _ _ | refine Ext.al ?_ _ | refine Ext.dr ?_ | refine Ext.drN ?_ _ | refine Ext.gr ?_ _ | refine Ext.set ?_ (by simp) _ | (refine Ext.trans' ?_ (by assumption))))
          replace k4 := cell_ext eU2 k4
          replace HSX := Lib.hid (HSX.out.ext eU2)
          replace HXX := Lib.hid (HXX.out.ext eU2)
          replace HRX := Lib.hid (HRX.out.trans' eU2)
          rw [← hU2]
          replace hz4 := World.block_lt_of_cell? _ _ k4
          clear hU2 eU2
          obtain ⟨Y2, hY2⟩ : ∃ Y2, Y2 = U2 := ⟨_, rfl⟩
          subst hY2
          refine wp_region_roveG (Y2.heap.size) (Nat.le_refl _)
            [sqV (.slice (some ⟨b, off, none⟩) n c1),
             sqV (.int .i64 n),
             sqV (.int .i64 (2 * (n : Int))),
             sqV (.bool false),
             sqV (.bool false),
             sqV undef,
             sqV undef,
             sqV undef,
             sqV undef,
             sqV undef,
             sqV undef,
             sqV undef,
             sqV undef,
             sqV (.bool false)]
            [true, true, true, true, true, true, true, true, true, true, true, true, true, true] [false, false, false, false, false, false, false, false, false, false, false, false, false, false] [true, true, true, true, true, true, true, true, true, true, true, true, true, true] [true, true, true, true, true, true, true, true, true, true, true, true, true, true] [true, true, true, true, true, false, false, false, false, false, false, false, false, true] [none, none, none, some false, some false, none, none, none, none, none, none, none, none, some false]
            (by kernel_rfl) (by kernel_rfl) (by decide +kernel) ⟨fun _ _ _ h => h, ⟨fun _ _ _ h => h, ⟨fun _ _ _ h => h, trivial⟩⟩⟩ (by decide +kernel) (by decide +kernel) (by decide +kernel) rfl ⟨rfl, rfl, rfl⟩ ⟨?s0, ?s1, ?s2, ?s3, ?s4, ?s5, ?s6, ?s7, ?s8, ?s9, ?s10, ?s11, ?s12, ?s13, trivial⟩ [some 92, some 93, some 94, some 95, some 96, some 97, some 98, some 99, some 100, some 101, some 102, some 103, some 104, some 105] rfl rfl ?send
          case s0 =>
            intro val ρ W hE hz hd hu hA hx
            have o0 : ρ (.tmp 7) = .slice (some ⟨b, off, none⟩) n c1 := hA.old 7 (by decide)
            clear hd hu
            exact runq_val (W' := W) (by simp [execOp, o0, go_sem]) (Below.refl _ _) rfl
          case s1 =>
            intro val ρ W hE hz hd hu hA hx
            have d0 : ρ (.tmp 92) = .slice (some ⟨b, off, none⟩) n c1 := (hA.dep 0 (by decide) 92 rfl).trans (hd 0 (by decide))
            clear hd hu
            exact runq_val (W' := W) (by simp [execOp, d0, go_sem]) (Below.refl _ _) rfl
          case s2 =>
            intro val ρ W hE hz hd hu hA hx
            have d1 : ρ (.tmp 93) = .int .i64 n := (hA.dep 1 (by decide) 93 rfl).trans (hd 1 (by decide))
            clear hd hu
            exact runq_val (W' := W) (by simp [execOp, hA.const, d1, hx2, go_sem]) (Below.refl _ _) rfl
          case s3 =>
            intro val ρ W hE hz hd hu hA hx
            have d2 : ρ (.tmp 94) = .int .i64 (2 * (n : Int)) := (hA.dep 2 (by decide) 94 rfl).trans (hd 2 (by decide))
            clear hd hu
            exact runq_val (W' := W) (by simp [execOp, hA.const, d2, hd2, go_sem]) (Below.refl _ _) rfl
          case s4 =>
            intro val ρ W hE hz hd hu hA hx
            have d3 : ρ (.tmp 95) = .bool false := (hA.dep 3 (by decide) 95 rfl).trans (hd 3 (by decide))
            clear hd hu
            exact runq_val (W' := W) (by simp [execOp, d3, go_sem]) (Below.refl _ _) rfl
          case s5 => exact ⟨fun _ _ => rfl, fun _ _ _ h => h⟩
          case s6 => exact ⟨fun _ _ => rfl, fun _ _ _ h => h⟩
          case s7 => exact ⟨fun _ _ => rfl, fun _ _ _ h => h⟩
          case s8 => exact ⟨fun _ _ => rfl, fun _ _ _ h => h⟩
          case s9 => exact ⟨fun _ _ => rfl, fun _ _ _ h => h⟩
          case s10 => exact ⟨fun _ _ => rfl, fun _ _ _ h => h⟩
          case s11 => exact ⟨fun _ _ => rfl, fun _ _ _ h => h⟩
          case s12 => exact ⟨fun _ _ => rfl, fun _ _ _ h => h⟩
          case s13 =>
            intro val ρ W hE hz hd hu hA hx
            have d4 : ρ (.tmp 96) = .bool false := (hA.dep 4 (by decide) 96 rfl).trans (hd 4 (by decide))
            clear hd hu
            exact runq_val (W' := W) (by simp [execOp, hA.const, d4, go_sem]) (Below.refl _ _) rfl
          case send =>
            intro val WZ hE hzz hv
            obtain ⟨-, -, -, -, -, -, -, -, -, -, -, -, -, r13, -⟩ := hv
            have r13' : val 13 = .bool false := r13
            simp only [putD, r13']
            go_frame
            have hEX2 : Ext Y2 WZ := hE
            have k5 := cell_ext hEX2 k4
            have hz5 := World.block_lt_of_cell? _ _ k5
            simp only at hz5
            have HSZ := Lib.hid (HSX.out.ext hEX2)
            have HXZ := Lib.hid (HXX.out.ext hEX2)
            have HRZ := Lib.hid (HRX.out.trans' hEX2)
            clear r13 r13' hE hzz hEX2 k4 hd2 hx2





            go_upto_region 15 with (fail)
            obtain ⟨t, ht0, ht1, ht2, ht3, ht4⟩ := circ_behind V.out HXW.out HXC.out (by rw [HXN.out]; omega)
            rw [HXN.out] at ht2
            have HT0 := Lib.hid ht0
            have HT1 := Lib.hid ht1
            have HT2 := Lib.hid ht2
            have HT3 := Lib.hid ht3
            have HT4 := Lib.hid ht4
            clear ht0 ht1 ht2 ht3 ht4
            refine wp_region_rove (WZ.heap.size) (Nat.le_refl _)
              [sqV (.agg #[.slice sa ks.length cap]),
               sqV (.agg #[.slice sa ks.length cap]),
               sqW (fun v W => IsInts W .i64 v (zeroS ks)) (fun _ _ _ h e => IsInts.ext e h),
               sqV (.slice (some ⟨vb, vo, none⟩) n vc),
               sqW (fun v W => PlyP t n W v) (fun _ _ _ h e => PlyP.ext e h),
               sqW (fun v W => PlyP t n W v) (fun _ _ _ h e => PlyP.ext e h),
               sqW (fun v W => IsInts W .i64 v t) (fun _ _ _ h e => IsInts.ext e h),
               sqV (.int .i64 n),
               sqV (.int .i64 0),
               sqW (fun v W => IsInts W .i64 v t) (fun _ _ _ h e => IsInts.ext e h),
               sqV (.int .i64 n),
               sqV (.int .i64 0)]
              [true, true, false, true, false, false, false, true, true, false, true, true] [false, false, false, false, false, false, false, false, false, false, false, false] [true, true, true, true, true, true, true, true, true, true, true, true] [true, true, true, true, true, true, true, true, true, true, true, true]
              (by kernel_rfl) (by kernel_rfl) (by decide +kernel) (by decide +kernel) (by decide +kernel) rfl ⟨rfl, rfl⟩ ⟨?s0, ?s1, ?s2, ?s3, ?s4, ?s5, ?s6, ?s7, ?s8, ?s9, ?s10, ?s11, trivial⟩ [some 107, some 108, some 109, some 110, some 111, some 106, some 112, some 113, some 114, some 12, some 13, some 8] rfl rfl ?send
            case s0 =>
              intro val ρ W hE hz hd hA hx
              have o0 : ρ (.tmp 3) = .pointer (some ⟨w.heap.size, 0, none⟩) := hA.old 3 (by decide)
              have f_k5 := cell_below hE (by simp only; omega) k5
              clear hd
              exact runq_val (W' := W) (by simp [execOp, o0, f_k5, go_sem]) (Below.refl _ _) rfl
            case s1 =>
              intro val ρ W hE hz hd hA hx
              have o0 : ρ (.tmp 3) = .pointer (some ⟨w.heap.size, 0, none⟩) := hA.old 3 (by decide)
              have f_k5 := cell_below hE (by simp only; omega) k5
              clear hd
              exact runq_val (W' := W) (by simp [execOp, o0, f_k5, go_sem]) (Below.refl _ _) rfl
            case s3 =>
              intro val ρ W hE hz hd hA hx
              have o0 : ρ (.tmp 11) = .slice (some ⟨vb, vo, none⟩) n vc := hA.old 11 (by decide)
              clear hd
              exact runq_val (W' := W) (by simp [execOp, o0, go_sem]) (Below.refl _ _) rfl
            case s10 =>
              intro val ρ W hE hz hd hA hx
              have d7 : ρ (.tmp 113) = .int .i64 n := (hA.dep 7 (by decide) 113 rfl).trans (hd 7 (by decide))
              clear hd
              exact runq_val (W' := W) (by simp [execOp, d7, go_sem]) (Below.refl _ _) rfl
            case s11 =>
              intro val ρ W hE hz hd hA hx
              have d8 : ρ (.tmp 114) = .int .i64 0 := (hA.dep 8 (by decide) 114 rfl).trans (hd 8 (by decide))
              clear hd
              exact runq_val (W' := W) (by simp [execOp, d8, go_sem]) (Below.refl _ _) rfl
            case s2 =>
              intro val ρ W hE hz hd hA hx
              have d1 : ρ (.tmp 108) = .agg #[.slice sa ks.length cap] := (hA.dep 1 (by decide) 108 rfl).trans (hd 1 (by decide))
              clear hd
              refine runq_call 54 _ _ rfl #[.agg #[.slice sa ks.length cap]] (hA.func _) (by simp [d1]) (fun args W => Try.call54 args W) ((emptyR_any ks _ W (HSZ.out.ext hE) (by omega)).mono ?_)
              rintro e w' ⟨g, rfl, hb, -, hN⟩
              exact ⟨_, rfl, hb, hN.zero (by omega)⟩
            case s4 =>
              intro val ρ W hE hz hd hA hx
              have d0 : ρ (.tmp 107) = .agg #[.slice sa ks.length cap] := (hA.dep 0 (by decide) 107 rfl).trans (hd 0 (by decide))
              have q2 : IsInts W .i64 (val 2) (zeroS ks) := hd 2 (by decide)
              have d2 : ρ (.tmp 109) = val 2 := hA.dep 2 (by decide) 109 rfl
              have d3 : ρ (.tmp 110) = .slice (some ⟨vb, vo, none⟩) n vc := (hA.dep 3 (by decide) 110 rfl).trans (hd 3 (by decide))
              clear hd
              refine runq_call 26 _ _ rfl #[.agg #[.slice sa ks.length cap], val 2, .slice (some ⟨vb, vo, none⟩) n vc] (hA.func _) (by simp [d0, d2, d3]) (fun args W => Try.call26 args W) ((play_any ks (zeroS ks) X _ _ _ W (HSZ.out.ext hE) q2 (HXZ.out.ext hE)).mono ?_)
              rintro e w' ⟨r, rfl, hb, hi⟩
              rw [HT1.out, HT2.out]
              exact ⟨_, rfl, hb, r, rfl, by rw [← HT3.out]; exact hi⟩
            case s5 =>
              intro val ρ W hE hz hd hA hx
              obtain ⟨r, h1, h2⟩ : PlyP t n W (val 4) := hd 4 (by decide)
              have dd : ρ (.tmp 111) = .tuple #[r, .int .i64 n, .int .i64 0] := (hA.dep 4 (by decide) 111 rfl).trans h1
              exact runq_val (W' := W) (v := .tuple #[r, .int .i64 n, .int .i64 0]) (by simp [execOp, dd, go_sem]) (Below.refl _ _) ⟨r, rfl, h2⟩
            case s6 =>
              intro val ρ W hE hz hd hA hx
              obtain ⟨r, h1, h2⟩ : PlyP t n W (val 5) := hd 5 (by decide)
              have dd : ρ (.tmp 106) = .tuple #[r, .int .i64 n, .int .i64 0] := (hA.dep 5 (by decide) 106 rfl).trans h1
              exact runq_val (W' := W) (v := r) (by simp [execOp, dd, go_sem]) (Below.refl _ _) h2
            case s7 =>
              intro val ρ W hE hz hd hA hx
              obtain ⟨r, h1, h2⟩ : PlyP t n W (val 5) := hd 5 (by decide)
              have dd : ρ (.tmp 106) = .tuple #[r, .int .i64 n, .int .i64 0] := (hA.dep 5 (by decide) 106 rfl).trans h1
              exact runq_val (W' := W) (v := .int .i64 n) (by simp [execOp, dd, go_sem]) (Below.refl _ _) rfl
            case s8 =>
              intro val ρ W hE hz hd hA hx
              obtain ⟨r, h1, h2⟩ : PlyP t n W (val 5) := hd 5 (by decide)
              have dd : ρ (.tmp 106) = .tuple #[r, .int .i64 n, .int .i64 0] := (hA.dep 5 (by decide) 106 rfl).trans h1
              exact runq_val (W' := W) (v := .int .i64 0) (by simp [execOp, dd, go_sem]) (Below.refl _ _) rfl
            case s9 =>
              intro val ρ W hE hz hd hA hx
              have q6 : IsInts W .i64 (val 6) t := hd 6 (by decide)
              have d6 : ρ (.tmp 112) = val 6 := hA.dep 6 (by decide) 112 rfl
              exact runq_val (W' := W) (v := val 6) (by simp [execOp, d6, go_sem]) (Below.refl _ _) q6
            case send =>
              intro val WQ hE hzz hv
              obtain ⟨-, -, -, -, -, -, -, -, -, q9, q10, q11, -⟩ := hv
              have q10' : val 10 = .int .i64 n := q10
              have q11' : val 11 = .int .i64 0 := q11
              replace q9 : IsInts WQ .i64 (val 9) t := q9
              obtain ⟨ta, tc, e9, -⟩ := q9.spec
              rw [e9] at q9
              simp only [putD, e9, q10', q11']
              go_frame
              have hEQ : Ext WZ WQ := hE
              have k6 := cell_ext hEQ k5
              have hz6 := World.block_lt_of_cell? _ _ k6
              simp only at hz6
              have HSQ := Lib.hid (HSZ.out.ext hEQ)
              have HTQ := Lib.hid q9
              have HRQ := Lib.hid (HRZ.out.trans' hEQ)
              clear hE hzz hEQ q9 q10 q10' q11 q11' e9 k5 hz5





              go_wp2_with fail
              refine callW (W0 := WQ) (g := ⟨WQ, Below.refl _ _⟩) (by exact (by repeat (first | exact Below.refl _ _ | refine Ext.al ?_ _ | refine Ext.dr ?_ | refine Ext.drN ?_ _ | refine Ext.gr ?_ _ | refine Ext.set ?_ (by simp) _ | (refine Ext.trans' ?_ (by assumption))))) (statedR_any ks t _ _ _ (HSQ.out.ext (by exact (by repeat (first | exact Below.refl _ _ | refine Ext.al ?_ _ | refine Ext.dr ?_ | refine Ext.drN ?_ _ | refine Ext.gr ?_ _ | refine Ext.set ?_ (by simp) _ | (refine Ext.trans' ?_ (by assumption)))))) (HTQ.out.ext (by exact (by repeat (first | exact Below.refl _ _ | refine Ext.al ?_ _ | refine Ext.dr ?_ | refine Ext.drN ?_ _ | refine Ext.gr ?_ _ | refine Ext.set ?_ (by simp) _ | (refine Ext.trans' ?_ (by assumption))))))) fun g1 hgr => ?_
              clear hgr
              rw [stErr_of V.out HT0.out]
              go_wp2_with fail
              refine callWR (W0 := WQ) (g := g1) (by exact (by repeat (first | exact Below.refl _ _ | refine Ext.al ?_ _ | refine Ext.dr ?_ | refine Ext.drN ?_ _ | refine Ext.gr ?_ _ | refine Ext.set ?_ (by simp) _ | (refine Ext.trans' ?_ (by assumption))))) (doomF_any ks t _ _ _ (HSQ.out.ext (by exact (by repeat (first | exact Below.refl _ _ | refine Ext.al ?_ _ | refine Ext.dr ?_ | refine Ext.drN ?_ _ | refine Ext.gr ?_ _ | refine Ext.set ?_ (by simp) _ | (refine Ext.trans' ?_ (by assumption)))))) (HTQ.out.ext (by exact (by repeat (first | exact Below.refl _ _ | refine Ext.al ?_ _ | refine Ext.dr ?_ | refine Ext.drN ?_ _ | refine Ext.gr ?_ _ | refine Ext.set ?_ (by simp) _ | (refine Ext.trans' ?_ (by assumption))))))) (fun _ _ ⟨_, _, _, r, _⟩ => r) fun _ g2 hgr hr => ?_
              obtain ⟨x, dl, rfl, -, hI, -, -⟩ := hr
              clear hgr
              obtain ⟨a5, c5, rfl, -, -⟩ := hI.spec
              clear hI
              rw [HT4.out]
              go_wp2_with fail
              refine callW (W0 := WQ) (g := g2) (by exact (by repeat (first | exact Below.refl _ _ | refine Ext.al ?_ _ | refine Ext.dr ?_ | refine Ext.drN ?_ _ | refine Ext.gr ?_ _ | refine Ext.set ?_ (by simp) _ | (refine Ext.trans' ?_ (by assumption))))) (works_any _) fun g3 hgr => ?_
              clear hgr
              go_wp2_with fail
              go_ret
              exact ⟨rfl, HRQ.out.trans' (grow_below WQ g3)⟩
end Go.Proofs.Ytndgaklcnhoddaa
namespace Go.Proofs.Ytndgaklcnhoddaa
open Go.RowKit
open Go.ChangeShapes Go.WideShapes Go.ChangeAt in
set_option maxRecDepth 100000 in
theorem turnCircled_lifted (os : Os) (started : os.Started) (H : Type) (enc : TypeId × Value → H) :
    ReturnsInHanded {} Try.checked os 12 .any (Rows.turnCircledSpec.pre6 enc Try.prog Try.f12 Rows.turnCircledRow.domain false) (Rows.turnCircledSpec.post enc Try.prog Try.f12 false true false false) := by
  refine returnsInHanded_of_change (C := Try.checked) own started (by kernel_rfl) Try.func12
    (ChangeSpec.witness6 (enc := enc) (C := Try.checked) false ⟨#[], #[.agg #[.slice none 0 0], .int .u8 0, .slice none 0 0], []⟩ 8 (by kernel_rfl) (by kernel_rfl) (by kernel_rfl) (by kernel_rfl)) ?_
  intro W base args ds gs before hval0 hW hcnd _
  have hval : ∀ (j : Nat) t v, Try.f12.params[j]? = some t → args[j]? = some v → Value.okWide Try.prog W .any base t v := hval0
  have hW' := hW
  obtain ⟨p, q, hA0, hV, rfl, hfz, hnd⟩ := hW
  have hA : DataW.TrodAll enc Try.prog W 0 (fun _ => true) true Try.f12.params.toList args.toList ds p := hA0
  rw [Try.params12] at hA hval
  obtain ⟨v0, vs0, d0, ds0, p0, q0, hargs, rfl, rfl, h0, r0⟩ := trodAll_cons hA
  obtain ⟨v1, vs1, d1, ds1, p1, q1, rfl, rfl, rfl, h1, r1⟩ := trodAll_cons r0
  obtain ⟨v2, vs2, d2, ds2, p2, q2, rfl, rfl, rfl, h2, r2⟩ := trodAll_cons r1
  obtain ⟨rfl, rfl, rfl⟩ := trodAll_nil r2
  obtain rfl : args = #[v0, v1, v2] := by cases args; simp_all
  obtain ⟨ks, sks, rfl, hks⟩ := openHall (hval 0 24 v0 rfl rfl) h0
  obtain ⟨mm, rfl, rfl, rfl, wmm⟩ := open_int Try.underlying5 (hval 1 5 v1 rfl rfl) h1
  obtain ⟨bs, hbs, wbs⟩ := openNumsK (k := .u8) Try.underlying52 Try.underlying5 (by kernel_rfl) (hval 2 52 v2 rfl rfl) h2
  clear hA0 hval0
  refine (turnCircled_any ks sks mm v2 bs W hks wmm hbs wbs).mono fun e W' ⟨he, hb⟩ => ?_
  subst he
  exact ⟨_, rfl, law_post laidOut (tb := 4) (hts_of (by kernel_rfl)) (by kernel_rfl) Try.underlying4 hW' rfl rfl hb⟩
theorem turnCircled_holds : Rows.TurnCircledSaid :=
  OpenClaim.holds_of_wide 12 Try.f12 rfl rfl rfl rfl rfl rfl rfl ⟨rfl, rfl, rfl, rfl, rfl⟩ rfl rfl rfl rfl rfl (by kernel_rfl) Try.func12 (by kernel_rfl)
    (of_decide_eq_true (by kernel_rfl)) (by unfold Func.isWrapper; first | (rw [if_pos (by decide +kernel)]; kernel_rfl) | (rw [if_neg (by decide +kernel)]; exact ⟨rfl, rfl⟩))
    (fun os started H enc _ => turnCircled_lifted os started H enc)
end Go.Proofs.Ytndgaklcnhoddaa
