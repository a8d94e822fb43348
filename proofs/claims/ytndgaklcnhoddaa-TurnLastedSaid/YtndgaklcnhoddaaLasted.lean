/-
  The statement TurnLasted holds: from a doomed state no given row is safe that is longer than that of Lasts, or as long and before it; that of Lasts is safe, and its beginnings are; after each of its visits as many turns are left as it has more; for every hall, state, row and number that are handed in. No condition.
-/
import Derived.Test.YtndgaklcnhoddaaCut
import Derived.Test.YtndgaklcnhoddaaEither
import Derived.Test.YtndgaklcnhoddaaLawF
import Derived.Test.YtndgaklcnhoddaaRa
namespace Go.Proofs.Ytndgaklcnhoddaa
open Go.RowKit Go.Shelf
/-- what Lasts answers at a state -/
theorem lasts_cases {ks s : List Int} (v : TVal ks) (hs : isSt ks s = true) : (lastsErr ks s = 5 ∧ lastsL ks s = []) ∨ (lastsErr ks s = 0 ∧ ∃ r : Nat, Rk (nxS ks) s r ∧ lastsL ks s = lastG ks r s ∧ r < 1000) := by
  have h0 : ¬ stErr ks s ≠ 0 := fun e => e (stErr_of v hs)
  unfold lastsL lastsErr
  rw [if_neg h0]
  by_cases h : rowOf (nxS ks) s < 0
  · rw [if_pos h]; exact .inl ⟨rfl, by rw [if_neg (by decide)]⟩
  · rw [if_neg h]
    rcases rowOf_cases (nxS ks) s with ⟨e, _⟩ | ⟨r, e, hr⟩
    · rw [e] at h; omega
    · have h1 := rk_lt v hs hr
      have h2 := v.pr
      exact .inr ⟨rfl, r, hr, by rw [if_pos rfl, e]; rfl, by omega⟩
/-- what Play answers at a state and visits of the hall -/
theorem play_cases {ks s row : List Int} (v : TVal ks) (hs : isSt ks s = true) (hw : WinL ks row) (hl : row.length ≤ 1000) :
    playN ks s row = ((playP ks 0 s row).2 : Int) ∧ ((playErr ks s row = 17 ∧ (playP ks 0 s row).1.isSome = false) ∨ (playErr ks s row = 0 ∧ (playP ks 0 s row).1.isSome = true)) := by
  have h0 : ¬ stErr ks s ≠ 0 := fun e => e (stErr_of v hs)
  have h1 : ¬ rowErr ks row ≠ 0 := fun e => e (rowErr_of hl hw)
  unfold playN playErr
  rw [if_neg h0, if_neg h1, if_neg (fun h => h.elim h0 h1)]
  refine ⟨rfl, ?_⟩
  cases (playP ks 0 s row).1.isSome
  · exact .inl ⟨by simp, rfl⟩
  · exact .inr ⟨by simp, rfl⟩
/-- its beginnings -/
theorem play_last {ks s : List Int} (v : TVal ks) (hs : isSt ks s = true) {r : Nat} (hr : Rk (nxS ks) s r) (h1000 : r < 1000) {k : Nat} (hk : k ≤ r) :
    ∃ t, isSt ks t = true ∧ playErr ks s ((lastG ks r s).take k) = 0 ∧ playN ks s ((lastG ks r s).take k) = (k : Int) ∧ playL ks s ((lastG ks r s).take k) = t ∧ lastsErr ks t = 0 ∧ lastsL ks t = (lastG ks r s).drop k := by
  obtain ⟨t, h1, h2, h3⟩ := lastG_play hr k 0 hk
  have hw : WinL ks ((lastG ks r s).take k) := fun x hx => lastG_win hr x (List.mem_of_mem_take hx)
  have hll : ((lastG ks r s).take k).length ≤ 1000 := by have := lastG_len hr; rw [List.length_take]; omega
  obtain ⟨e1, e2⟩ := play_cases v hs hw hll
  rw [h1] at e1 e2
  have e3 : playErr ks s ((lastG ks r s).take k) = 0 := by
    rcases e2 with ⟨_, e⟩ | ⟨e, _⟩
    · simp at e
    · exact e
  have ht : isSt ks t = true := wlk_st v hs (play_wlk hw (by rw [h1]))
  refine ⟨t, ht, e3, by rw [e1]; simp, by unfold playL; rw [if_pos e3, h1]; rfl, ?_, ?_⟩
  · rcases lasts_cases v ht with ⟨e, _⟩ | ⟨e, _⟩
    · unfold lastsErr at e
      rw [if_neg (fun e => e (stErr_of v ht)), if_neg (by rw [rowOf_rk h2]; omega)] at e
      omega
    · exact e
  · rcases lasts_cases v ht with ⟨e, _⟩ | ⟨e, q, hq, e2, _⟩
    · unfold lastsErr at e
      rw [if_neg (fun e => e (stErr_of v ht)), if_neg (by rw [rowOf_rk h2]; omega)] at e
      omega
    · have : (q : Int) = ((r - k : Nat) : Int) := by rw [← rowOf_rk hq, rowOf_rk h2]
      have hqk : q = r - k := by omega
      rw [e2, hqk, h3]
set_option maxRecDepth 100000 in
set_option maxHeartbeats 8000000 in
theorem turnLasted_any (ks : List Int) (kv : Value) (bv : Value) (bs : List Int) (rv : Value) (rs : List Int) (mm : Int) (w : World) (hv : IsInts w .i64 kv ks) (hb : IsInts w .u8 bv bs) (hw8 : ∀ x ∈ bs, (Lit.int .u8 x).wf = true) (hr : IsInts w .u8 rv rs) (hwr : ∀ x ∈ rs, (Lit.int .u8 x).wf = true) (hwm : (Lit.int .u8 mm).wf = true) :
    Calls Try.prog 16 #[.agg #[kv], bv, rv, .int .u8 mm] w fun e W => e = .returned (.bool true) ∧ Ext w W := by
  obtain ⟨sa, cap, rfl, h1, h2, -⟩ := hv.spec
  obtain ⟨ba, bcap, rfl, h3, h4, -⟩ := hb.spec
  obtain ⟨ra, rcap, rfl, h5, h6, -⟩ := hr.spec
  have HV := Lib.hid hv
  have HB0 := Lib.hid hb
  have HR0 := Lib.hid hr
  have H8 := Lib.hid (u8s hw8)
  have H8r := Lib.hid (u8s hwr)
  have hmm : 0 ≤ mm ∧ mm ≤ 255 := by have := bounds_u8 hwm; omega
  clear hv hb hr hw8 hwr hwm
  go_enter Try.func16, Try.ntmps16
  go_upto_region 1 with (fail)
  obtain ⟨W0, hW0⟩ : ∃ W0, W0 = w.alloc (.cells #[.slice sa ks.length cap] 24) := ⟨_, rfl⟩
  have hE : Ext w W0 := by rw [hW0]; exact (by repeat (first | exact Below.refl _ _ | refine Ext.al ?_ _ | refine Ext.dr ?_ | refine Ext.drN ?_ _ | refine Ext.gr ?_ _ | refine Ext.set ?_ (by simp) _ | (refine Ext.trans' ?_ (by assumption))))
  have k0 : W0.cell? ⟨w.heap.size, 0, none⟩ = some (.slice sa ks.length cap) := by rw [hW0]; simp [go_sem]
  have hz : w.heap.size < W0.heap.size := World.block_lt_of_cell? _ _ k0
  have HS := Lib.hid (HV.out.ext hE)
  have HW := Lib.hid hE
  rw [← hW0]
  clear hW0 HV
  have HB := Lib.hid (HB0.out.ext hE)
  have HQ := Lib.hid (HR0.out.ext hE)
  clear hE HB0 HR0



  go_wp2_with fail
  refine callW (W0 := W0) (g := ⟨W0, Below.refl _ _⟩) (by exact (by repeat (first | exact Below.refl _ _ | refine Ext.al ?_ _ | refine Ext.dr ?_ | refine Ext.drN ?_ _ | refine Ext.gr ?_ _ | refine Ext.set ?_ (by simp) _ | (refine Ext.trans' ?_ (by assumption))))) (fineL_any ks _ _ (HS.out.ext (by exact (by repeat (first | exact Below.refl _ _ | refine Ext.al ?_ _ | refine Ext.dr ?_ | refine Ext.drN ?_ _ | refine Ext.gr ?_ _ | refine Ext.set ?_ (by simp) _ | (refine Ext.trans' ?_ (by assumption))))))) fun g1 hgr => ?_
  clear hgr
  cases hfn : fineB ks
  · clear hfn

    go_wp2_with fail
    refine callW (W0 := W0) (g := g1) (by exact (by repeat (first | exact Below.refl _ _ | refine Ext.al ?_ _ | refine Ext.dr ?_ | refine Ext.drN ?_ _ | refine Ext.gr ?_ _ | refine Ext.set ?_ (by simp) _ | (refine Ext.trans' ?_ (by assumption))))) (works_any _) fun g2 hgr => ?_
    clear hgr
    go_wp2_with fail
    go_ret
    exact ⟨rfl, HW.out.trans' (grow_below W0 g2)⟩

  have V := Lib.hid (tval_of (of_decide_eq_true hfn))
  have n1 := V.out.n1
  have n5 := V.out.n5
  clear hfn
  by_cases hb20 : 20 < bs.length
  · have hd : decide ((20 : Int) < (bs.length : Int)) = true := decide_eq_true (by omega)
    clear hb20

    go_wp2_with fail
    refine callW (W0 := W0) (g := g1) (by exact (by repeat (first | exact Below.refl _ _ | refine Ext.al ?_ _ | refine Ext.dr ?_ | refine Ext.drN ?_ _ | refine Ext.gr ?_ _ | refine Ext.set ?_ (by simp) _ | (refine Ext.trans' ?_ (by assumption))))) (works_any _) fun g3 hgr => ?_
    clear hgr
    go_wp2_with fail
    go_ret
    exact ⟨rfl, HW.out.trans' (grow_below W0 g3)⟩

  have hd : decide ((20 : Int) < (bs.length : Int)) = false := decide_eq_false (by omega)
  clear hb20
  by_cases hr60 : 60 < rs.length
  · have hd6 : decide ((60 : Int) < (rs.length : Int)) = true := decide_eq_true (by omega)
    clear hr60

    go_wp2_with fail
    refine callW (W0 := W0) (g := g1) (by exact (by repeat (first | exact Below.refl _ _ | refine Ext.al ?_ _ | refine Ext.dr ?_ | refine Ext.drN ?_ _ | refine Ext.gr ?_ _ | refine Ext.set ?_ (by simp) _ | (refine Ext.trans' ?_ (by assumption))))) (works_any _) fun g4 hgr => ?_
    clear hgr
    go_wp2_with fail
    go_ret
    exact ⟨rfl, HW.out.trans' (grow_below W0 g4)⟩

  have hd6 : decide ((60 : Int) < (rs.length : Int)) = false := decide_eq_false (by omega)
  go_wp2_with fail
  refine callWR (W0 := W0) (g := g1) (by exact (by repeat (first | exact Below.refl _ _ | refine Ext.al ?_ _ | refine Ext.dr ?_ | refine Ext.drN ?_ _ | refine Ext.gr ?_ _ | refine Ext.set ?_ (by simp) _ | (refine Ext.trans' ?_ (by assumption))))) (stateL_any ks bs _ _ _ (HS.out.ext (by exact (by repeat (first | exact Below.refl _ _ | refine Ext.al ?_ _ | refine Ext.dr ?_ | refine Ext.drN ?_ _ | refine Ext.gr ?_ _ | refine Ext.set ?_ (by simp) _ | (refine Ext.trans' ?_ (by assumption)))))) (HB.out.ext (by exact (by repeat (first | exact Below.refl _ _ | refine Ext.al ?_ _ | refine Ext.dr ?_ | refine Ext.drN ?_ _ | refine Ext.gr ?_ _ | refine Ext.set ?_ (by simp) _ | (refine Ext.trans' ?_ (by assumption)))))) H8.out V.out) (fun _ _ ⟨_, _, _, r, _⟩ => r) fun _ g5 hgr hr => ?_
  obtain ⟨x, s, rfl, -, hI, hst⟩ := hr
  clear hgr
  obtain ⟨a0, c0, rfl, -⟩ := hI.spec
  have HL := Lib.hid hI
  have HST := Lib.hid hst
  clear hI hst

  go_wp2_with fail
  refine callWR (W0 := W0) (g := g5) (by exact (by repeat (first | exact Below.refl _ _ | refine Ext.al ?_ _ | refine Ext.dr ?_ | refine Ext.drN ?_ _ | refine Ext.gr ?_ _ | refine Ext.set ?_ (by simp) _ | (refine Ext.trans' ?_ (by assumption))))) (lasts_any ks s _ _ _ (HS.out.ext (by exact (by repeat (first | exact Below.refl _ _ | refine Ext.al ?_ _ | refine Ext.dr ?_ | refine Ext.drN ?_ _ | refine Ext.gr ?_ _ | refine Ext.set ?_ (by simp) _ | (refine Ext.trans' ?_ (by assumption)))))) (HL.out.ext (by exact (by repeat (first | exact Below.refl _ _ | refine Ext.al ?_ _ | refine Ext.dr ?_ | refine Ext.drN ?_ _ | refine Ext.gr ?_ _ | refine Ext.set ?_ (by simp) _ | (refine Ext.trans' ?_ (by assumption))))))) (fun _ _ ⟨_, _, r, _⟩ => r) fun _ g6 hgr hr => ?_
  obtain ⟨x, rfl, -, hI⟩ := hr
  replace HL := Lib.hid (HL.out.ext hgr)
  clear hgr
  obtain ⟨a1, c1, rfl, hc1, -⟩ := hI.spec
  have HI1 := Lib.hid hI
  clear hI

  rcases lasts_cases V.out HST.out with ⟨e1, e2⟩ | ⟨e1, r, hR, e2, hr1000⟩
  · rw [e1, e2]
    clear e1 e2

    go_wp2_with fail
    refine callW (W0 := W0) (g := g6) (by exact (by repeat (first | exact Below.refl _ _ | refine Ext.al ?_ _ | refine Ext.dr ?_ | refine Ext.drN ?_ _ | refine Ext.gr ?_ _ | refine Ext.set ?_ (by simp) _ | (refine Ext.trans' ?_ (by assumption))))) (works_any _) fun g7 hgr => ?_
    replace HL := Lib.hid (HL.out.ext hgr)
    replace HI1 := Lib.hid (HI1.out.ext hgr)
    clear hgr
    go_wp2_with fail
    go_ret
    exact ⟨rfl, HW.out.trans' (grow_below W0 g7)⟩

  rw [e2] at HI1 hc1
  rw [e1, e2]
  have hlw := lastG_win hR
  have hln := lastG_len hR
  have hfi : ∀ row, row.length = r → WinL ks row → (playP ks 0 s row).1.isSome = true → befr row (lastG ks r s) = false := fun row h1 h2 h3 => by
    have := lastG_first row 0 (by rw [h1]; exact hR) h2 h3
    rw [h1] at this; exact this
  obtain ⟨K, hK⟩ : ∃ K : Nat, K = mm.toNat % (r + 1) := ⟨_, rfl⟩
  have hKr : K ≤ r := by have := Nat.mod_lt mm.toNat (show 0 < r + 1 by omega); omega
  obtain ⟨t, ht, p1, p2, p3, p4, p5⟩ := play_last V.out HST.out hR hr1000 hKr
  obtain ⟨l, hl⟩ : ∃ l, l = lastG ks r s := ⟨_, rfl⟩
  rw [← hl] at HI1 hc1 hlw hln p1 p2 p3 p5 hfi ⊢
  rw [hln] at HI1 hc1 ⊢
  clear hl
  have HLN := Lib.hid hln
  have HLW := Lib.hid hlw
  have HFI := Lib.hid hfi
  have HPL := Lib.hid (And.intro p2 (And.intro p1 p3))
  have HLA := Lib.hid (And.intro p4 p5)
  have HTS := Lib.hid ht
  have HRK := Lib.hid hR
  have HKC : Hid (K ≤ c1) := Lib.hid (by omega)
  have HKL : Hid (K ≤ r) := Lib.hid hKr
  have hr0 : decide ((1000 : Int) < (r : Int)) = false := decide_eq_false (by omega)
  have hmt : Int.tmod mm ((r : Int) + 1) = (K : Int) := by
    rw [Int.tmod_eq_emod_of_nonneg (by omega), hK]
    conv => lhs; rw [show mm = (mm.toNat : Int) by omega]
    rfl
  have hme : mm % ((r : Int) + 1) = (K : Int) := by rw [← hmt, Int.tmod_eq_emod_of_nonneg (by omega)]
  have hrn : ((r : Int) + 1 == 0) = false := by rw [beq_eq_false_iff_ne]; omega
  have hrn2 : ¬ ((r : Int) + 1 = 0) := by omega
  have hw1 : IntKind.i64.wrap mm = mm := IntWalk.i64_in _ (by omega)
  have hw2 : IntKind.i64.wrap ((r : Int) + 1) = (r : Int) + 1 := IntWalk.i64_in _ (by omega)
  have hw3 : IntKind.i64.wrap (K : Int) = (K : Int) := IntWalk.i64_in _ (by omega)
  clear hlw hln hfi p1 p2 p3 p4 p5 ht hR e1 e2 hK hKr
  go_wp2_with fail
  refine callWR (W0 := W0) (g := g6) (by exact (by repeat (first | exact Below.refl _ _ | refine Ext.al ?_ _ | refine Ext.dr ?_ | refine Ext.drN ?_ _ | refine Ext.gr ?_ _ | refine Ext.set ?_ (by simp) _ | (refine Ext.trans' ?_ (by assumption))))) (rowL_any ks rs _ _ _ (HS.out.ext (by exact (by repeat (first | exact Below.refl _ _ | refine Ext.al ?_ _ | refine Ext.dr ?_ | refine Ext.drN ?_ _ | refine Ext.gr ?_ _ | refine Ext.set ?_ (by simp) _ | (refine Ext.trans' ?_ (by assumption)))))) (HQ.out.ext (by exact (by repeat (first | exact Below.refl _ _ | refine Ext.al ?_ _ | refine Ext.dr ?_ | refine Ext.drN ?_ _ | refine Ext.gr ?_ _ | refine Ext.set ?_ (by simp) _ | (refine Ext.trans' ?_ (by assumption)))))) H8r.out (by omega) V.out) (fun _ _ ⟨_, _, _, r, _⟩ => r) fun _ g8 hgr hr => ?_
  obtain ⟨x, row, rfl, -, hI, hwin, hlen⟩ := hr
  replace HL := Lib.hid (HL.out.ext hgr)
  replace HI1 := Lib.hid (HI1.out.ext hgr)
  clear hgr
  obtain ⟨a2, c2, rfl, -⟩ := hI.spec
  have HG := Lib.hid hI
  have HWIN := Lib.hid hwin
  have HROW : Hid (row.length ≤ 60) := Lib.hid (by omega)
  clear hI hwin hlen hr60

  go_wp2_with fail
  refine callW (W0 := W0) (g := g8) (by exact (by repeat (first | exact Below.refl _ _ | refine Ext.al ?_ _ | refine Ext.dr ?_ | refine Ext.drN ?_ _ | refine Ext.gr ?_ _ | refine Ext.set ?_ (by simp) _ | (refine Ext.trans' ?_ (by assumption))))) (isRow_any ks l _ _ _ (HS.out.ext (by exact (by repeat (first | exact Below.refl _ _ | refine Ext.al ?_ _ | refine Ext.dr ?_ | refine Ext.drN ?_ _ | refine Ext.gr ?_ _ | refine Ext.set ?_ (by simp) _ | (refine Ext.trans' ?_ (by assumption)))))) (HI1.out.ext (by exact (by repeat (first | exact Below.refl _ _ | refine Ext.al ?_ _ | refine Ext.dr ?_ | refine Ext.drN ?_ _ | refine Ext.gr ?_ _ | refine Ext.set ?_ (by simp) _ | (refine Ext.trans' ?_ (by assumption))))))) fun g9 hgr => ?_
  replace HL := Lib.hid (HL.out.ext hgr)
  replace HI1 := Lib.hid (HI1.out.ext hgr)
  replace HG := Lib.hid (HG.out.ext hgr)
  clear hgr
  rw [rowErr_of (by rw [HLN.out]; omega) HLW.out]
  go_wp2_with fail
  refine callWR (W0 := W0) (g := g9) (by exact (by repeat (first | exact Below.refl _ _ | refine Ext.al ?_ _ | refine Ext.dr ?_ | refine Ext.drN ?_ _ | refine Ext.gr ?_ _ | refine Ext.set ?_ (by simp) _ | (refine Ext.trans' ?_ (by assumption))))) (play_any ks s row _ _ _ _ (HS.out.ext (by exact (by repeat (first | exact Below.refl _ _ | refine Ext.al ?_ _ | refine Ext.dr ?_ | refine Ext.drN ?_ _ | refine Ext.gr ?_ _ | refine Ext.set ?_ (by simp) _ | (refine Ext.trans' ?_ (by assumption)))))) (HL.out.ext (by exact (by repeat (first | exact Below.refl _ _ | refine Ext.al ?_ _ | refine Ext.dr ?_ | refine Ext.drN ?_ _ | refine Ext.gr ?_ _ | refine Ext.set ?_ (by simp) _ | (refine Ext.trans' ?_ (by assumption)))))) (HG.out.ext (by exact (by repeat (first | exact Below.refl _ _ | refine Ext.al ?_ _ | refine Ext.dr ?_ | refine Ext.drN ?_ _ | refine Ext.gr ?_ _ | refine Ext.set ?_ (by simp) _ | (refine Ext.trans' ?_ (by assumption))))))) (fun _ _ ⟨_, _, r, _⟩ => r) fun _ g10 hgr hr => ?_
  obtain ⟨x, rfl, -, hI⟩ := hr
  replace HL := Lib.hid (HL.out.ext hgr)
  replace HI1 := Lib.hid (HI1.out.ext hgr)
  replace HG := Lib.hid (HG.out.ext hgr)
  clear hgr
  obtain ⟨a3, c3, rfl, -⟩ := hI.spec
  clear hI
  obtain ⟨y1, y2⟩ := play_cases V.out HST.out HWIN.out (by have := HROW.out; omega)
  have y3 := play_le row 0 HRK.out HWIN.out
  have y4 := fun h => HFI.out row h HWIN.out
  rw [y1]
  obtain ⟨N, hN⟩ : ∃ N, N = (playP ks 0 s row).2 := ⟨_, rfl⟩
  rw [← hN] at y3 ⊢
  obtain ⟨y3a, y3b⟩ := y3
  have hNr : decide ((r : Int) < (N : Int)) = false := decide_eq_false (by omega)
  have hNr2 : decide (r < N) = false := decide_eq_false (by omega)
  clear hN y1
  rcases y2 with ⟨e1, e2⟩ | ⟨e1, e2⟩
  · rw [e1]
    clear y3a y3b y4 e1 e2

    go_upto_region 13 with (fail)
    obtain ⟨U1, hU1⟩ : ∃ zz9, zz9 = (grow W0 g10) := ⟨_, rfl⟩
    have eU1 : Ext W0 U1 := by rw [hU1]; exact (by repeat (first | exact Below.refl _ _ | refine Ext.al ?_ _ | refine Ext.dr ?_ | refine Ext.drN ?_ _ | refine Ext.gr ?_ _ | refine Ext.set ?_ (by simp) _ | (refine Ext.trans' ?_ (by assumption))))
    have eU1c : Ext (grow W0 g10) U1 := by rw [hU1]; exact (by repeat (first | exact Below.refl _ _ | refine Ext.al ?_ _ | refine Ext.dr ?_ | refine Ext.drN ?_ _ | refine Ext.gr ?_ _ | refine Ext.set ?_ (by simp) _ | (refine Ext.trans' ?_ (by assumption))))
    replace k0 := cell_ext eU1 k0
    replace HS := Lib.hid (HS.out.ext eU1)
    replace HB := Lib.hid (HB.out.ext eU1)
    replace HQ := Lib.hid (HQ.out.ext eU1)
    replace HL := Lib.hid (HL.out.ext eU1c)
    replace HI1 := Lib.hid (HI1.out.ext eU1c)
    replace HG := Lib.hid (HG.out.ext eU1c)
    replace HW := Lib.hid (HW.out.trans' eU1)
    rw [← hU1]
    replace hz := World.block_lt_of_cell? _ _ k0
    clear hU1 eU1 eU1c
    go_upto_region 14 with (fail)
    obtain ⟨Y, hY⟩ : ∃ Y, Y = U1 := ⟨_, rfl⟩
    subst hY
    refine wp_region_rove (Y.heap.size) (Nat.le_refl _)
      [sqV (.agg #[.slice sa ks.length cap]),
       sqV (.slice a0 s.length c0),
       sqV (.slice a1 r c1),
       sqV (.int .i64 K),
       sqW (fun v W => IsInts W .i64 v (l.take K)) (fun _ _ _ h e => IsInts.ext e h),
       sqW (fun v W => ∃ x, v = .tuple #[x, .int .i64 K, .int .i64 0] ∧ IsInts W .i64 x t) (fun _ _ _ ⟨x, h1, h2⟩ e => ⟨x, h1, h2.ext e⟩),
       sqW (fun v W => ∃ x, v = .tuple #[x, .int .i64 K, .int .i64 0] ∧ IsInts W .i64 x t) (fun _ _ _ ⟨x, h1, h2⟩ e => ⟨x, h1, h2.ext e⟩),
       sqW (fun v W => IsInts W .i64 v t) (fun _ _ _ h e => IsInts.ext e h),
       sqV (.int .i64 K),
       sqV (.int .i64 0),
       sqW (fun v W => IsInts W .i64 v t) (fun _ _ _ h e => IsInts.ext e h),
       sqV (.int .i64 K),
       sqV (.int .i64 0)]
      [true, true, true, true, false, false, false, false, true, true, false, true, true] [false, false, false, false, false, false, false, false, false, false, false, false, false] [true, true, true, true, true, true, true, true, true, true, true, true, true] [true, true, true, true, true, true, true, true, true, true, true, true, true]
      (by kernel_rfl) (by kernel_rfl) (by decide +kernel) (by decide +kernel) (by decide +kernel) rfl ⟨rfl, rfl⟩ ⟨?s0, ?s1, ?s2, ?s3, ?s4, ?s5, ?s6, ?s7, ?s8, ?s9, ?s10, ?s11, ?s12, trivial⟩ [some 107, some 108, some 109, some 110, some 111, some 112, some 106, some 113, some 114, some 115, some 17, some 14, some 15] rfl rfl ?send
    case s0 =>
      intro val ρ W hE hz hd hA hx
      have o0 : ρ (.tmp 4) = .pointer (some ⟨w.heap.size, 0, none⟩) := hA.old 4 (by decide)
      have f_k0 := cell_below hE (by simp only; omega) k0
      clear hd
      exact runq_val (W' := W) (by simp [execOp, o0, f_k0, go_sem]) (Below.refl _ _) rfl
    case s1 =>
      intro val ρ W hE hz hd hA hx
      have o0 : ρ (.tmp 9) = .slice a0 s.length c0 := hA.old 9 (by decide)
      clear hd
      exact runq_val (W' := W) (by simp [execOp, o0, go_sem]) (Below.refl _ _) rfl
    case s2 =>
      intro val ρ W hE hz hd hA hx
      have o0 : ρ (.tmp 10) = .slice a1 r c1 := hA.old 10 (by decide)
      clear hd
      exact runq_val (W' := W) (by simp [execOp, o0, go_sem]) (Below.refl _ _) rfl
    case s3 =>
      intro val ρ W hE hz hd hA hx
      have o0 : ρ (.tmp 16) = .int .i64 K := hA.old 16 (by decide)
      clear hd
      exact runq_val (W' := W) (by simp [execOp, o0, go_sem]) (Below.refl _ _) rfl
    case s11 =>
      intro val ρ W hE hz hd hA hx
      have d8 : ρ (.tmp 114) = .int .i64 K := (hA.dep 8 (by decide) 114 rfl).trans (hd 8 (by decide))
      clear hd
      exact runq_val (W' := W) (by simp [execOp, d8, go_sem]) (Below.refl _ _) rfl
    case s12 =>
      intro val ρ W hE hz hd hA hx
      have d9 : ρ (.tmp 115) = .int .i64 0 := (hA.dep 9 (by decide) 115 rfl).trans (hd 9 (by decide))
      clear hd
      exact runq_val (W' := W) (by simp [execOp, d9, go_sem]) (Below.refl _ _) rfl
    case s4 =>
      intro val ρ W hE hz hd hA hx
      have d2 : ρ (.tmp 109) = .slice a1 r c1 := (hA.dep 2 (by decide) 109 rfl).trans (hd 2 (by decide))
      have d3 : ρ (.tmp 110) = .int .i64 K := (hA.dep 3 (by decide) 110 rfl).trans (hd 3 (by decide))
      clear hd
      exact runq_val (W' := W) (v := sliced a1 0 K c1 1) (by simp [execOp, d2, d3, go_sem, cut_to _ _ _ _ HKC.out]) (Below.refl _ _) ((HI1.out.ext hE).cut (Nat.zero_le _) HKL.out)
    case s5 =>
      intro val ρ W hE hz hd hA hx
      have d0 : ρ (.tmp 107) = .agg #[.slice sa ks.length cap] := (hA.dep 0 (by decide) 107 rfl).trans (hd 0 (by decide))
      have d1 : ρ (.tmp 108) = .slice a0 s.length c0 := (hA.dep 1 (by decide) 108 rfl).trans (hd 1 (by decide))
      have q4 : IsInts W .i64 (val 4) (l.take K) := hd 4 (by decide)
      have d4 : ρ (.tmp 111) = val 4 := hA.dep 4 (by decide) 111 rfl
      clear hd
      refine runq_call 26 _ _ rfl #[.agg #[.slice sa ks.length cap], .slice a0 s.length c0, val 4] (hA.func _) (by simp [d0, d1, d4]) (fun args W => Try.call26 args W) ((play_any ks s (l.take K) _ _ _ W (HS.out.ext hE) (HL.out.ext hE) q4).mono ?_)
      rintro e w' ⟨x, rfl, hb, hi⟩
      rw [HPL.out.1, HPL.out.2.1]
      exact ⟨_, rfl, hb, x, rfl, by rw [← HPL.out.2.2]; exact hi⟩
    case s6 =>
      intro val ρ W hE hz hd hA hx
      obtain ⟨x, h1, h2⟩ : ∃ x, val 5 = .tuple #[x, .int .i64 K, .int .i64 0] ∧ IsInts W .i64 x t := hd 5 (by decide)
      have dd : ρ (.tmp 112) = .tuple #[x, .int .i64 K, .int .i64 0] := (hA.dep 5 (by decide) 112 rfl).trans h1
      exact runq_val (W' := W) (v := .tuple #[x, .int .i64 K, .int .i64 0]) (by simp [execOp, dd, go_sem]) (Below.refl _ _) ⟨x, rfl, h2⟩
    case s7 =>
      intro val ρ W hE hz hd hA hx
      obtain ⟨x, h1, h2⟩ : ∃ x, val 6 = .tuple #[x, .int .i64 K, .int .i64 0] ∧ IsInts W .i64 x t := hd 6 (by decide)
      have dd : ρ (.tmp 106) = .tuple #[x, .int .i64 K, .int .i64 0] := (hA.dep 6 (by decide) 106 rfl).trans h1
      exact runq_val (W' := W) (v := x) (by simp [execOp, dd, go_sem]) (Below.refl _ _) h2
    case s8 =>
      intro val ρ W hE hz hd hA hx
      obtain ⟨x, h1, h2⟩ : ∃ x, val 6 = .tuple #[x, .int .i64 K, .int .i64 0] ∧ IsInts W .i64 x t := hd 6 (by decide)
      have dd : ρ (.tmp 106) = .tuple #[x, .int .i64 K, .int .i64 0] := (hA.dep 6 (by decide) 106 rfl).trans h1
      exact runq_val (W' := W) (v := .int .i64 K) (by simp [execOp, dd, go_sem]) (Below.refl _ _) rfl
    case s9 =>
      intro val ρ W hE hz hd hA hx
      obtain ⟨x, h1, h2⟩ : ∃ x, val 6 = .tuple #[x, .int .i64 K, .int .i64 0] ∧ IsInts W .i64 x t := hd 6 (by decide)
      have dd : ρ (.tmp 106) = .tuple #[x, .int .i64 K, .int .i64 0] := (hA.dep 6 (by decide) 106 rfl).trans h1
      exact runq_val (W' := W) (v := .int .i64 0) (by simp [execOp, dd, go_sem]) (Below.refl _ _) rfl
    case s10 =>
      intro val ρ W hE hz hd hA hx
      have q7 : IsInts W .i64 (val 7) t := hd 7 (by decide)
      have d7 : ρ (.tmp 113) = val 7 := hA.dep 7 (by decide) 113 rfl
      exact runq_val (W' := W) (v := val 7) (by simp [execOp, d7, go_sem]) (Below.refl _ _) q7
    case send =>
      intro val WW hE hzz hv
      obtain ⟨-, -, -, -, -, -, -, -, -, -, q10, q11, q12, -⟩ := hv
      have q11' : val 11 = .int .i64 K := q11
      have q12' : val 12 = .int .i64 0 := q12
      replace q10 : IsInts WW .i64 (val 10) t := q10
      obtain ⟨xa, xc, e10, -⟩ := q10.spec
      rw [e10] at q10
      simp only [putD, e10, q11', q12']
      go_frame
      have hEY : Ext Y WW := hE
      have k2 := cell_ext hEY k0
      have hz2 := World.block_lt_of_cell? _ _ k2
      simp only at hz2
      have HSY := Lib.hid (HS.out.ext hEY)
      have HIY := Lib.hid (HI1.out.ext hEY)
      have HXT := Lib.hid q10
      have HR := Lib.hid (HW.out.trans' hEY)
      clear hE hzz hEY q10 q11 q11' q12 q12' e10 k0





      go_wp2_with fail
      refine callW (W0 := WW) (g := ⟨WW, Below.refl _ _⟩) (by exact (by repeat (first | exact Below.refl _ _ | refine Ext.al ?_ _ | refine Ext.dr ?_ | refine Ext.drN ?_ _ | refine Ext.gr ?_ _ | refine Ext.set ?_ (by simp) _ | (refine Ext.trans' ?_ (by assumption))))) (statedR_any ks t _ _ _ (HSY.out.ext (by exact (by repeat (first | exact Below.refl _ _ | refine Ext.al ?_ _ | refine Ext.dr ?_ | refine Ext.drN ?_ _ | refine Ext.gr ?_ _ | refine Ext.set ?_ (by simp) _ | (refine Ext.trans' ?_ (by assumption)))))) (HXT.out.ext (by exact (by repeat (first | exact Below.refl _ _ | refine Ext.al ?_ _ | refine Ext.dr ?_ | refine Ext.drN ?_ _ | refine Ext.gr ?_ _ | refine Ext.set ?_ (by simp) _ | (refine Ext.trans' ?_ (by assumption))))))) fun g1 hgr => ?_
      clear hgr
      rw [stErr_of V.out HTS.out]
      go_wp2_with fail
      refine callWR (W0 := WW) (g := g1) (by exact (by repeat (first | exact Below.refl _ _ | refine Ext.al ?_ _ | refine Ext.dr ?_ | refine Ext.drN ?_ _ | refine Ext.gr ?_ _ | refine Ext.set ?_ (by simp) _ | (refine Ext.trans' ?_ (by assumption))))) (lasts_any ks t _ _ _ (HSY.out.ext (by exact (by repeat (first | exact Below.refl _ _ | refine Ext.al ?_ _ | refine Ext.dr ?_ | refine Ext.drN ?_ _ | refine Ext.gr ?_ _ | refine Ext.set ?_ (by simp) _ | (refine Ext.trans' ?_ (by assumption)))))) (HXT.out.ext (by exact (by repeat (first | exact Below.refl _ _ | refine Ext.al ?_ _ | refine Ext.dr ?_ | refine Ext.drN ?_ _ | refine Ext.gr ?_ _ | refine Ext.set ?_ (by simp) _ | (refine Ext.trans' ?_ (by assumption))))))) (fun _ _ ⟨_, _, r, _⟩ => r) fun _ g2 hgr hr => ?_
      obtain ⟨x, rfl, -, hI⟩ := hr
      clear hgr
      rw [HLA.out.1]
      rw [HLA.out.2] at hI
      obtain ⟨D, hD⟩ : ∃ D, D = l.drop K := ⟨_, rfl⟩
      rw [← hD] at hI
      obtain ⟨a8, c8, rfl, -⟩ := hI.spec
      have HI8 := Lib.hid hI
      clear hI

      have hkl := HKL.out
      have hkn : (K : Int) ≤ (r : Int) := by omega
      have hcut := HIY.out.cut hkl (Nat.le_refl _)
      rw [List.take_of_length_le (by rw [HLN.out]; exact Nat.le_refl _)] at hcut
      rw [← hD] at hcut
      unfold sliced at hcut
      simp only [Nat.mul_one] at hcut
      clear hD
      by_cases hck : c1 = K
      · rw [if_pos hck, show c1 - K = 0 by omega] at hcut
        have HCUT := Lib.hid hcut
        clear hcut


        go_wp2_with fail
        refine callW (W0 := WW) (g := g2) (by exact (by repeat (first | exact Below.refl _ _ | refine Ext.al ?_ _ | refine Ext.dr ?_ | refine Ext.drN ?_ _ | refine Ext.gr ?_ _ | refine Ext.set ?_ (by simp) _ | (refine Ext.trans' ?_ (by assumption))))) (intsL_any D D _ _ _ (HI8.out.ext (by exact (by repeat (first | exact Below.refl _ _ | refine Ext.al ?_ _ | refine Ext.dr ?_ | refine Ext.drN ?_ _ | refine Ext.gr ?_ _ | refine Ext.set ?_ (by simp) _ | (refine Ext.trans' ?_ (by assumption)))))) (HCUT.out.ext (by exact (by repeat (first | exact Below.refl _ _ | refine Ext.al ?_ _ | refine Ext.dr ?_ | refine Ext.drN ?_ _ | refine Ext.gr ?_ _ | refine Ext.set ?_ (by simp) _ | (refine Ext.trans' ?_ (by assumption))))))) fun g3 hgr => ?_
        replace HI8 := Lib.hid (HI8.out.ext hgr)
        clear hgr
        rw [decide_eq_true rfl]
        go_wp2_with fail
        refine callW (W0 := WW) (g := g3) (by exact (by repeat (first | exact Below.refl _ _ | refine Ext.al ?_ _ | refine Ext.dr ?_ | refine Ext.drN ?_ _ | refine Ext.gr ?_ _ | refine Ext.set ?_ (by simp) _ | (refine Ext.trans' ?_ (by assumption))))) (works_any _) fun g4 hgr => ?_
        replace HI8 := Lib.hid (HI8.out.ext hgr)
        clear hgr
        go_wp2_with fail
        go_ret
        exact ⟨rfl, HR.out.trans' (grow_below WW g4)⟩

      · rw [if_neg hck] at hcut
        have HCUT := Lib.hid hcut
        clear hcut

        go_wp2_with fail
        refine callW (W0 := WW) (g := g2) (by exact (by repeat (first | exact Below.refl _ _ | refine Ext.al ?_ _ | refine Ext.dr ?_ | refine Ext.drN ?_ _ | refine Ext.gr ?_ _ | refine Ext.set ?_ (by simp) _ | (refine Ext.trans' ?_ (by assumption))))) (intsL_any D D _ _ _ (HI8.out.ext (by exact (by repeat (first | exact Below.refl _ _ | refine Ext.al ?_ _ | refine Ext.dr ?_ | refine Ext.drN ?_ _ | refine Ext.gr ?_ _ | refine Ext.set ?_ (by simp) _ | (refine Ext.trans' ?_ (by assumption)))))) (HCUT.out.ext (by exact (by repeat (first | exact Below.refl _ _ | refine Ext.al ?_ _ | refine Ext.dr ?_ | refine Ext.drN ?_ _ | refine Ext.gr ?_ _ | refine Ext.set ?_ (by simp) _ | (refine Ext.trans' ?_ (by assumption))))))) fun g5 hgr => ?_
        replace HI8 := Lib.hid (HI8.out.ext hgr)
        clear hgr
        rw [decide_eq_true rfl]
        go_wp2_with fail
        refine callW (W0 := WW) (g := g5) (by exact (by repeat (first | exact Below.refl _ _ | refine Ext.al ?_ _ | refine Ext.dr ?_ | refine Ext.drN ?_ _ | refine Ext.gr ?_ _ | refine Ext.set ?_ (by simp) _ | (refine Ext.trans' ?_ (by assumption))))) (works_any _) fun g6 hgr => ?_
        replace HI8 := Lib.hid (HI8.out.ext hgr)
        clear hgr
        go_wp2_with fail
        go_ret
        exact ⟨rfl, HR.out.trans' (grow_below WW g6)⟩

  have hNl := y3b e2
  obtain rfl : N = row.length := by omega
  rw [e1]
  have hnn : ((row.length : Int) != (row.length : Int)) = false := by simp
  have hnn2 : (row.length != row.length) = false := by simp
  by_cases hNe : row.length = r
  · have hf := y4 hNe e2
    have hne : ((row.length : Int) == (r : Int)) = true := by rw [beq_iff_eq]; omega
    have hne2 : (row.length == r) = true := by rw [beq_iff_eq]; omega
    have HNE : Hid (row.length = l.length) := Lib.hid (by rw [HLN.out]; exact hNe)
    clear y3a y3b y4 e1 e2 hNe hNl
    have HF := Lib.hid hf
    clear hf

    go_wp2_with fail
    refine callW (W0 := W0) (g := g10) (by exact (by repeat (first | exact Below.refl _ _ | refine Ext.al ?_ _ | refine Ext.dr ?_ | refine Ext.drN ?_ _ | refine Ext.gr ?_ _ | refine Ext.set ?_ (by simp) _ | (refine Ext.trans' ?_ (by assumption))))) (firstL_any row l _ _ _ (HG.out.ext (by exact (by repeat (first | exact Below.refl _ _ | refine Ext.al ?_ _ | refine Ext.dr ?_ | refine Ext.drN ?_ _ | refine Ext.gr ?_ _ | refine Ext.set ?_ (by simp) _ | (refine Ext.trans' ?_ (by assumption)))))) (HI1.out.ext (by exact (by repeat (first | exact Below.refl _ _ | refine Ext.al ?_ _ | refine Ext.dr ?_ | refine Ext.drN ?_ _ | refine Ext.gr ?_ _ | refine Ext.set ?_ (by simp) _ | (refine Ext.trans' ?_ (by assumption)))))) HNE.out) fun g7 hgr => ?_
    replace HL := Lib.hid (HL.out.ext hgr)
    replace HI1 := Lib.hid (HI1.out.ext hgr)
    replace HG := Lib.hid (HG.out.ext hgr)
    clear hgr
    rw [HF.out]
    go_upto_region 13 with (fail)
    obtain ⟨U1, hU1⟩ : ∃ zz9, zz9 = (grow W0 g7) := ⟨_, rfl⟩
    have eU1 : Ext W0 U1 := by rw [hU1]; exact (by repeat (first | exact Below.refl _ _ | refine Ext.al ?_ _ | refine Ext.dr ?_ | refine Ext.drN ?_ _ | refine Ext.gr ?_ _ | refine Ext.set ?_ (by simp) _ | (refine Ext.trans' ?_ (by assumption))))
    have eU1c : Ext (grow W0 g7) U1 := by rw [hU1]; exact (by repeat (first | exact Below.refl _ _ | refine Ext.al ?_ _ | refine Ext.dr ?_ | refine Ext.drN ?_ _ | refine Ext.gr ?_ _ | refine Ext.set ?_ (by simp) _ | (refine Ext.trans' ?_ (by assumption))))
    replace k0 := cell_ext eU1 k0
    replace HS := Lib.hid (HS.out.ext eU1)
    replace HB := Lib.hid (HB.out.ext eU1)
    replace HQ := Lib.hid (HQ.out.ext eU1)
    replace HL := Lib.hid (HL.out.ext eU1c)
    replace HI1 := Lib.hid (HI1.out.ext eU1c)
    replace HG := Lib.hid (HG.out.ext eU1c)
    replace HW := Lib.hid (HW.out.trans' eU1)
    rw [← hU1]
    replace hz := World.block_lt_of_cell? _ _ k0
    clear hU1 eU1 eU1c
    go_upto_region 14 with (fail)
    obtain ⟨Y, hY⟩ : ∃ Y, Y = U1 := ⟨_, rfl⟩
    subst hY
    refine wp_region_rove (Y.heap.size) (Nat.le_refl _)
      [sqV (.agg #[.slice sa ks.length cap]),
       sqV (.slice a0 s.length c0),
       sqV (.slice a1 r c1),
       sqV (.int .i64 K),
       sqW (fun v W => IsInts W .i64 v (l.take K)) (fun _ _ _ h e => IsInts.ext e h),
       sqW (fun v W => ∃ x, v = .tuple #[x, .int .i64 K, .int .i64 0] ∧ IsInts W .i64 x t) (fun _ _ _ ⟨x, h1, h2⟩ e => ⟨x, h1, h2.ext e⟩),
       sqW (fun v W => ∃ x, v = .tuple #[x, .int .i64 K, .int .i64 0] ∧ IsInts W .i64 x t) (fun _ _ _ ⟨x, h1, h2⟩ e => ⟨x, h1, h2.ext e⟩),
       sqW (fun v W => IsInts W .i64 v t) (fun _ _ _ h e => IsInts.ext e h),
       sqV (.int .i64 K),
       sqV (.int .i64 0),
       sqW (fun v W => IsInts W .i64 v t) (fun _ _ _ h e => IsInts.ext e h),
       sqV (.int .i64 K),
       sqV (.int .i64 0)]
      [true, true, true, true, false, false, false, false, true, true, false, true, true] [false, false, false, false, false, false, false, false, false, false, false, false, false] [true, true, true, true, true, true, true, true, true, true, true, true, true] [true, true, true, true, true, true, true, true, true, true, true, true, true]
      (by kernel_rfl) (by kernel_rfl) (by decide +kernel) (by decide +kernel) (by decide +kernel) rfl ⟨rfl, rfl⟩ ⟨?s0, ?s1, ?s2, ?s3, ?s4, ?s5, ?s6, ?s7, ?s8, ?s9, ?s10, ?s11, ?s12, trivial⟩ [some 107, some 108, some 109, some 110, some 111, some 112, some 106, some 113, some 114, some 115, some 17, some 14, some 15] rfl rfl ?send
    case s0 =>
      intro val ρ W hE hz hd hA hx
      have o0 : ρ (.tmp 4) = .pointer (some ⟨w.heap.size, 0, none⟩) := hA.old 4 (by decide)
      have f_k0 := cell_below hE (by simp only; omega) k0
      clear hd
      exact runq_val (W' := W) (by simp [execOp, o0, f_k0, go_sem]) (Below.refl _ _) rfl
    case s1 =>
      intro val ρ W hE hz hd hA hx
      have o0 : ρ (.tmp 9) = .slice a0 s.length c0 := hA.old 9 (by decide)
      clear hd
      exact runq_val (W' := W) (by simp [execOp, o0, go_sem]) (Below.refl _ _) rfl
    case s2 =>
      intro val ρ W hE hz hd hA hx
      have o0 : ρ (.tmp 10) = .slice a1 r c1 := hA.old 10 (by decide)
      clear hd
      exact runq_val (W' := W) (by simp [execOp, o0, go_sem]) (Below.refl _ _) rfl
    case s3 =>
      intro val ρ W hE hz hd hA hx
      have o0 : ρ (.tmp 16) = .int .i64 K := hA.old 16 (by decide)
      clear hd
      exact runq_val (W' := W) (by simp [execOp, o0, go_sem]) (Below.refl _ _) rfl
    case s11 =>
      intro val ρ W hE hz hd hA hx
      have d8 : ρ (.tmp 114) = .int .i64 K := (hA.dep 8 (by decide) 114 rfl).trans (hd 8 (by decide))
      clear hd
      exact runq_val (W' := W) (by simp [execOp, d8, go_sem]) (Below.refl _ _) rfl
    case s12 =>
      intro val ρ W hE hz hd hA hx
      have d9 : ρ (.tmp 115) = .int .i64 0 := (hA.dep 9 (by decide) 115 rfl).trans (hd 9 (by decide))
      clear hd
      exact runq_val (W' := W) (by simp [execOp, d9, go_sem]) (Below.refl _ _) rfl
    case s4 =>
      intro val ρ W hE hz hd hA hx
      have d2 : ρ (.tmp 109) = .slice a1 r c1 := (hA.dep 2 (by decide) 109 rfl).trans (hd 2 (by decide))
      have d3 : ρ (.tmp 110) = .int .i64 K := (hA.dep 3 (by decide) 110 rfl).trans (hd 3 (by decide))
      clear hd
      exact runq_val (W' := W) (v := sliced a1 0 K c1 1) (by simp [execOp, d2, d3, go_sem, cut_to _ _ _ _ HKC.out]) (Below.refl _ _) ((HI1.out.ext hE).cut (Nat.zero_le _) HKL.out)
    case s5 =>
      intro val ρ W hE hz hd hA hx
      have d0 : ρ (.tmp 107) = .agg #[.slice sa ks.length cap] := (hA.dep 0 (by decide) 107 rfl).trans (hd 0 (by decide))
      have d1 : ρ (.tmp 108) = .slice a0 s.length c0 := (hA.dep 1 (by decide) 108 rfl).trans (hd 1 (by decide))
      have q4 : IsInts W .i64 (val 4) (l.take K) := hd 4 (by decide)
      have d4 : ρ (.tmp 111) = val 4 := hA.dep 4 (by decide) 111 rfl
      clear hd
      refine runq_call 26 _ _ rfl #[.agg #[.slice sa ks.length cap], .slice a0 s.length c0, val 4] (hA.func _) (by simp [d0, d1, d4]) (fun args W => Try.call26 args W) ((play_any ks s (l.take K) _ _ _ W (HS.out.ext hE) (HL.out.ext hE) q4).mono ?_)
      rintro e w' ⟨x, rfl, hb, hi⟩
      rw [HPL.out.1, HPL.out.2.1]
      exact ⟨_, rfl, hb, x, rfl, by rw [← HPL.out.2.2]; exact hi⟩
    case s6 =>
      intro val ρ W hE hz hd hA hx
      obtain ⟨x, h1, h2⟩ : ∃ x, val 5 = .tuple #[x, .int .i64 K, .int .i64 0] ∧ IsInts W .i64 x t := hd 5 (by decide)
      have dd : ρ (.tmp 112) = .tuple #[x, .int .i64 K, .int .i64 0] := (hA.dep 5 (by decide) 112 rfl).trans h1
      exact runq_val (W' := W) (v := .tuple #[x, .int .i64 K, .int .i64 0]) (by simp [execOp, dd, go_sem]) (Below.refl _ _) ⟨x, rfl, h2⟩
    case s7 =>
      intro val ρ W hE hz hd hA hx
      obtain ⟨x, h1, h2⟩ : ∃ x, val 6 = .tuple #[x, .int .i64 K, .int .i64 0] ∧ IsInts W .i64 x t := hd 6 (by decide)
      have dd : ρ (.tmp 106) = .tuple #[x, .int .i64 K, .int .i64 0] := (hA.dep 6 (by decide) 106 rfl).trans h1
      exact runq_val (W' := W) (v := x) (by simp [execOp, dd, go_sem]) (Below.refl _ _) h2
    case s8 =>
      intro val ρ W hE hz hd hA hx
      obtain ⟨x, h1, h2⟩ : ∃ x, val 6 = .tuple #[x, .int .i64 K, .int .i64 0] ∧ IsInts W .i64 x t := hd 6 (by decide)
      have dd : ρ (.tmp 106) = .tuple #[x, .int .i64 K, .int .i64 0] := (hA.dep 6 (by decide) 106 rfl).trans h1
      exact runq_val (W' := W) (v := .int .i64 K) (by simp [execOp, dd, go_sem]) (Below.refl _ _) rfl
    case s9 =>
      intro val ρ W hE hz hd hA hx
      obtain ⟨x, h1, h2⟩ : ∃ x, val 6 = .tuple #[x, .int .i64 K, .int .i64 0] ∧ IsInts W .i64 x t := hd 6 (by decide)
      have dd : ρ (.tmp 106) = .tuple #[x, .int .i64 K, .int .i64 0] := (hA.dep 6 (by decide) 106 rfl).trans h1
      exact runq_val (W' := W) (v := .int .i64 0) (by simp [execOp, dd, go_sem]) (Below.refl _ _) rfl
    case s10 =>
      intro val ρ W hE hz hd hA hx
      have q7 : IsInts W .i64 (val 7) t := hd 7 (by decide)
      have d7 : ρ (.tmp 113) = val 7 := hA.dep 7 (by decide) 113 rfl
      exact runq_val (W' := W) (v := val 7) (by simp [execOp, d7, go_sem]) (Below.refl _ _) q7
    case send =>
      intro val WW hE hzz hv
      obtain ⟨-, -, -, -, -, -, -, -, -, -, q10, q11, q12, -⟩ := hv
      have q11' : val 11 = .int .i64 K := q11
      have q12' : val 12 = .int .i64 0 := q12
      replace q10 : IsInts WW .i64 (val 10) t := q10
      obtain ⟨xa, xc, e10, -⟩ := q10.spec
      rw [e10] at q10
      simp only [putD, e10, q11', q12']
      go_frame
      have hEY : Ext Y WW := hE
      have k2 := cell_ext hEY k0
      have hz2 := World.block_lt_of_cell? _ _ k2
      simp only at hz2
      have HSY := Lib.hid (HS.out.ext hEY)
      have HIY := Lib.hid (HI1.out.ext hEY)
      have HXT := Lib.hid q10
      have HR := Lib.hid (HW.out.trans' hEY)
      clear hE hzz hEY q10 q11 q11' q12 q12' e10 k0





      go_wp2_with fail
      refine callW (W0 := WW) (g := ⟨WW, Below.refl _ _⟩) (by exact (by repeat (first | exact Below.refl _ _ | refine Ext.al ?_ _ | refine Ext.dr ?_ | refine Ext.drN ?_ _ | refine Ext.gr ?_ _ | refine Ext.set ?_ (by simp) _ | (refine Ext.trans' ?_ (by assumption))))) (statedR_any ks t _ _ _ (HSY.out.ext (by exact (by repeat (first | exact Below.refl _ _ | refine Ext.al ?_ _ | refine Ext.dr ?_ | refine Ext.drN ?_ _ | refine Ext.gr ?_ _ | refine Ext.set ?_ (by simp) _ | (refine Ext.trans' ?_ (by assumption)))))) (HXT.out.ext (by exact (by repeat (first | exact Below.refl _ _ | refine Ext.al ?_ _ | refine Ext.dr ?_ | refine Ext.drN ?_ _ | refine Ext.gr ?_ _ | refine Ext.set ?_ (by simp) _ | (refine Ext.trans' ?_ (by assumption))))))) fun g1 hgr => ?_
      clear hgr
      rw [stErr_of V.out HTS.out]
      go_wp2_with fail
      refine callWR (W0 := WW) (g := g1) (by exact (by repeat (first | exact Below.refl _ _ | refine Ext.al ?_ _ | refine Ext.dr ?_ | refine Ext.drN ?_ _ | refine Ext.gr ?_ _ | refine Ext.set ?_ (by simp) _ | (refine Ext.trans' ?_ (by assumption))))) (lasts_any ks t _ _ _ (HSY.out.ext (by exact (by repeat (first | exact Below.refl _ _ | refine Ext.al ?_ _ | refine Ext.dr ?_ | refine Ext.drN ?_ _ | refine Ext.gr ?_ _ | refine Ext.set ?_ (by simp) _ | (refine Ext.trans' ?_ (by assumption)))))) (HXT.out.ext (by exact (by repeat (first | exact Below.refl _ _ | refine Ext.al ?_ _ | refine Ext.dr ?_ | refine Ext.drN ?_ _ | refine Ext.gr ?_ _ | refine Ext.set ?_ (by simp) _ | (refine Ext.trans' ?_ (by assumption))))))) (fun _ _ ⟨_, _, r, _⟩ => r) fun _ g2 hgr hr => ?_
      obtain ⟨x, rfl, -, hI⟩ := hr
      clear hgr
      rw [HLA.out.1]
      rw [HLA.out.2] at hI
      obtain ⟨D, hD⟩ : ∃ D, D = l.drop K := ⟨_, rfl⟩
      rw [← hD] at hI
      obtain ⟨a8, c8, rfl, -⟩ := hI.spec
      have HI8 := Lib.hid hI
      clear hI

      have hkl := HKL.out
      have hkn : (K : Int) ≤ (r : Int) := by omega
      have hcut := HIY.out.cut hkl (Nat.le_refl _)
      rw [List.take_of_length_le (by rw [HLN.out]; exact Nat.le_refl _)] at hcut
      rw [← hD] at hcut
      unfold sliced at hcut
      simp only [Nat.mul_one] at hcut
      clear hD
      by_cases hck : c1 = K
      · rw [if_pos hck, show c1 - K = 0 by omega] at hcut
        have HCUT := Lib.hid hcut
        clear hcut


        go_wp2_with fail
        refine callW (W0 := WW) (g := g2) (by exact (by repeat (first | exact Below.refl _ _ | refine Ext.al ?_ _ | refine Ext.dr ?_ | refine Ext.drN ?_ _ | refine Ext.gr ?_ _ | refine Ext.set ?_ (by simp) _ | (refine Ext.trans' ?_ (by assumption))))) (intsL_any D D _ _ _ (HI8.out.ext (by exact (by repeat (first | exact Below.refl _ _ | refine Ext.al ?_ _ | refine Ext.dr ?_ | refine Ext.drN ?_ _ | refine Ext.gr ?_ _ | refine Ext.set ?_ (by simp) _ | (refine Ext.trans' ?_ (by assumption)))))) (HCUT.out.ext (by exact (by repeat (first | exact Below.refl _ _ | refine Ext.al ?_ _ | refine Ext.dr ?_ | refine Ext.drN ?_ _ | refine Ext.gr ?_ _ | refine Ext.set ?_ (by simp) _ | (refine Ext.trans' ?_ (by assumption))))))) fun g3 hgr => ?_
        replace HI8 := Lib.hid (HI8.out.ext hgr)
        clear hgr
        rw [decide_eq_true rfl]
        go_wp2_with fail
        refine callW (W0 := WW) (g := g3) (by exact (by repeat (first | exact Below.refl _ _ | refine Ext.al ?_ _ | refine Ext.dr ?_ | refine Ext.drN ?_ _ | refine Ext.gr ?_ _ | refine Ext.set ?_ (by simp) _ | (refine Ext.trans' ?_ (by assumption))))) (works_any _) fun g4 hgr => ?_
        replace HI8 := Lib.hid (HI8.out.ext hgr)
        clear hgr
        go_wp2_with fail
        go_ret
        exact ⟨rfl, HR.out.trans' (grow_below WW g4)⟩

      · rw [if_neg hck] at hcut
        have HCUT := Lib.hid hcut
        clear hcut

        go_wp2_with fail
        refine callW (W0 := WW) (g := g2) (by exact (by repeat (first | exact Below.refl _ _ | refine Ext.al ?_ _ | refine Ext.dr ?_ | refine Ext.drN ?_ _ | refine Ext.gr ?_ _ | refine Ext.set ?_ (by simp) _ | (refine Ext.trans' ?_ (by assumption))))) (intsL_any D D _ _ _ (HI8.out.ext (by exact (by repeat (first | exact Below.refl _ _ | refine Ext.al ?_ _ | refine Ext.dr ?_ | refine Ext.drN ?_ _ | refine Ext.gr ?_ _ | refine Ext.set ?_ (by simp) _ | (refine Ext.trans' ?_ (by assumption)))))) (HCUT.out.ext (by exact (by repeat (first | exact Below.refl _ _ | refine Ext.al ?_ _ | refine Ext.dr ?_ | refine Ext.drN ?_ _ | refine Ext.gr ?_ _ | refine Ext.set ?_ (by simp) _ | (refine Ext.trans' ?_ (by assumption))))))) fun g5 hgr => ?_
        replace HI8 := Lib.hid (HI8.out.ext hgr)
        clear hgr
        rw [decide_eq_true rfl]
        go_wp2_with fail
        refine callW (W0 := WW) (g := g5) (by exact (by repeat (first | exact Below.refl _ _ | refine Ext.al ?_ _ | refine Ext.dr ?_ | refine Ext.drN ?_ _ | refine Ext.gr ?_ _ | refine Ext.set ?_ (by simp) _ | (refine Ext.trans' ?_ (by assumption))))) (works_any _) fun g6 hgr => ?_
        replace HI8 := Lib.hid (HI8.out.ext hgr)
        clear hgr
        go_wp2_with fail
        go_ret
        exact ⟨rfl, HR.out.trans' (grow_below WW g6)⟩

  · have hne : ((row.length : Int) == (r : Int)) = false := by rw [beq_eq_false_iff_ne]; omega
    have hne2 : (row.length == r) = false := by rw [beq_eq_false_iff_ne]; omega
    clear y3a y3b y4 e1 e2 hNe hNl
    go_upto_region 13 with (fail)
    obtain ⟨U1, hU1⟩ : ∃ zz9, zz9 = (grow W0 g10) := ⟨_, rfl⟩
    have eU1 : Ext W0 U1 := by rw [hU1]; exact (by repeat (first | exact Below.refl _ _ | refine Ext.al ?_ _ | refine Ext.dr ?_ | refine Ext.drN ?_ _ | refine Ext.gr ?_ _ | refine Ext.set ?_ (by simp) _ | (refine Ext.trans' ?_ (by assumption))))
    have eU1c : Ext (grow W0 g10) U1 := by rw [hU1]; exact (by repeat (first | exact Below.refl _ _ | refine Ext.al ?_ _ | refine Ext.dr ?_ | refine Ext.drN ?_ _ | refine Ext.gr ?_ _ | refine Ext.set ?_ (by simp) _ | (refine Ext.trans' ?_ (by assumption))))
    replace k0 := cell_ext eU1 k0
    replace HS := Lib.hid (HS.out.ext eU1)
    replace HB := Lib.hid (HB.out.ext eU1)
    replace HQ := Lib.hid (HQ.out.ext eU1)
    replace HL := Lib.hid (HL.out.ext eU1c)
    replace HI1 := Lib.hid (HI1.out.ext eU1c)
    replace HG := Lib.hid (HG.out.ext eU1c)
    replace HW := Lib.hid (HW.out.trans' eU1)
    rw [← hU1]
    replace hz := World.block_lt_of_cell? _ _ k0
    clear hU1 eU1 eU1c
    go_upto_region 14 with (fail)
    obtain ⟨Y, hY⟩ : ∃ Y, Y = U1 := ⟨_, rfl⟩
    subst hY
    refine wp_region_rove (Y.heap.size) (Nat.le_refl _)
      [sqV (.agg #[.slice sa ks.length cap]),
       sqV (.slice a0 s.length c0),
       sqV (.slice a1 r c1),
       sqV (.int .i64 K),
       sqW (fun v W => IsInts W .i64 v (l.take K)) (fun _ _ _ h e => IsInts.ext e h),
       sqW (fun v W => ∃ x, v = .tuple #[x, .int .i64 K, .int .i64 0] ∧ IsInts W .i64 x t) (fun _ _ _ ⟨x, h1, h2⟩ e => ⟨x, h1, h2.ext e⟩),
       sqW (fun v W => ∃ x, v = .tuple #[x, .int .i64 K, .int .i64 0] ∧ IsInts W .i64 x t) (fun _ _ _ ⟨x, h1, h2⟩ e => ⟨x, h1, h2.ext e⟩),
       sqW (fun v W => IsInts W .i64 v t) (fun _ _ _ h e => IsInts.ext e h),
       sqV (.int .i64 K),
       sqV (.int .i64 0),
       sqW (fun v W => IsInts W .i64 v t) (fun _ _ _ h e => IsInts.ext e h),
       sqV (.int .i64 K),
       sqV (.int .i64 0)]
      [true, true, true, true, false, false, false, false, true, true, false, true, true] [false, false, false, false, false, false, false, false, false, false, false, false, false] [true, true, true, true, true, true, true, true, true, true, true, true, true] [true, true, true, true, true, true, true, true, true, true, true, true, true]
      (by kernel_rfl) (by kernel_rfl) (by decide +kernel) (by decide +kernel) (by decide +kernel) rfl ⟨rfl, rfl⟩ ⟨?s0, ?s1, ?s2, ?s3, ?s4, ?s5, ?s6, ?s7, ?s8, ?s9, ?s10, ?s11, ?s12, trivial⟩ [some 107, some 108, some 109, some 110, some 111, some 112, some 106, some 113, some 114, some 115, some 17, some 14, some 15] rfl rfl ?send
    case s0 =>
      intro val ρ W hE hz hd hA hx
      have o0 : ρ (.tmp 4) = .pointer (some ⟨w.heap.size, 0, none⟩) := hA.old 4 (by decide)
      have f_k0 := cell_below hE (by simp only; omega) k0
      clear hd
      exact runq_val (W' := W) (by simp [execOp, o0, f_k0, go_sem]) (Below.refl _ _) rfl
    case s1 =>
      intro val ρ W hE hz hd hA hx
      have o0 : ρ (.tmp 9) = .slice a0 s.length c0 := hA.old 9 (by decide)
      clear hd
      exact runq_val (W' := W) (by simp [execOp, o0, go_sem]) (Below.refl _ _) rfl
    case s2 =>
      intro val ρ W hE hz hd hA hx
      have o0 : ρ (.tmp 10) = .slice a1 r c1 := hA.old 10 (by decide)
      clear hd
      exact runq_val (W' := W) (by simp [execOp, o0, go_sem]) (Below.refl _ _) rfl
    case s3 =>
      intro val ρ W hE hz hd hA hx
      have o0 : ρ (.tmp 16) = .int .i64 K := hA.old 16 (by decide)
      clear hd
      exact runq_val (W' := W) (by simp [execOp, o0, go_sem]) (Below.refl _ _) rfl
    case s11 =>
      intro val ρ W hE hz hd hA hx
      have d8 : ρ (.tmp 114) = .int .i64 K := (hA.dep 8 (by decide) 114 rfl).trans (hd 8 (by decide))
      clear hd
      exact runq_val (W' := W) (by simp [execOp, d8, go_sem]) (Below.refl _ _) rfl
    case s12 =>
      intro val ρ W hE hz hd hA hx
      have d9 : ρ (.tmp 115) = .int .i64 0 := (hA.dep 9 (by decide) 115 rfl).trans (hd 9 (by decide))
      clear hd
      exact runq_val (W' := W) (by simp [execOp, d9, go_sem]) (Below.refl _ _) rfl
    case s4 =>
      intro val ρ W hE hz hd hA hx
      have d2 : ρ (.tmp 109) = .slice a1 r c1 := (hA.dep 2 (by decide) 109 rfl).trans (hd 2 (by decide))
      have d3 : ρ (.tmp 110) = .int .i64 K := (hA.dep 3 (by decide) 110 rfl).trans (hd 3 (by decide))
      clear hd
      exact runq_val (W' := W) (v := sliced a1 0 K c1 1) (by simp [execOp, d2, d3, go_sem, cut_to _ _ _ _ HKC.out]) (Below.refl _ _) ((HI1.out.ext hE).cut (Nat.zero_le _) HKL.out)
    case s5 =>
      intro val ρ W hE hz hd hA hx
      have d0 : ρ (.tmp 107) = .agg #[.slice sa ks.length cap] := (hA.dep 0 (by decide) 107 rfl).trans (hd 0 (by decide))
      have d1 : ρ (.tmp 108) = .slice a0 s.length c0 := (hA.dep 1 (by decide) 108 rfl).trans (hd 1 (by decide))
      have q4 : IsInts W .i64 (val 4) (l.take K) := hd 4 (by decide)
      have d4 : ρ (.tmp 111) = val 4 := hA.dep 4 (by decide) 111 rfl
      clear hd
      refine runq_call 26 _ _ rfl #[.agg #[.slice sa ks.length cap], .slice a0 s.length c0, val 4] (hA.func _) (by simp [d0, d1, d4]) (fun args W => Try.call26 args W) ((play_any ks s (l.take K) _ _ _ W (HS.out.ext hE) (HL.out.ext hE) q4).mono ?_)
      rintro e w' ⟨x, rfl, hb, hi⟩
      rw [HPL.out.1, HPL.out.2.1]
      exact ⟨_, rfl, hb, x, rfl, by rw [← HPL.out.2.2]; exact hi⟩
    case s6 =>
      intro val ρ W hE hz hd hA hx
      obtain ⟨x, h1, h2⟩ : ∃ x, val 5 = .tuple #[x, .int .i64 K, .int .i64 0] ∧ IsInts W .i64 x t := hd 5 (by decide)
      have dd : ρ (.tmp 112) = .tuple #[x, .int .i64 K, .int .i64 0] := (hA.dep 5 (by decide) 112 rfl).trans h1
      exact runq_val (W' := W) (v := .tuple #[x, .int .i64 K, .int .i64 0]) (by simp [execOp, dd, go_sem]) (Below.refl _ _) ⟨x, rfl, h2⟩
    case s7 =>
      intro val ρ W hE hz hd hA hx
      obtain ⟨x, h1, h2⟩ : ∃ x, val 6 = .tuple #[x, .int .i64 K, .int .i64 0] ∧ IsInts W .i64 x t := hd 6 (by decide)
      have dd : ρ (.tmp 106) = .tuple #[x, .int .i64 K, .int .i64 0] := (hA.dep 6 (by decide) 106 rfl).trans h1
      exact runq_val (W' := W) (v := x) (by simp [execOp, dd, go_sem]) (Below.refl _ _) h2
    case s8 =>
      intro val ρ W hE hz hd hA hx
      obtain ⟨x, h1, h2⟩ : ∃ x, val 6 = .tuple #[x, .int .i64 K, .int .i64 0] ∧ IsInts W .i64 x t := hd 6 (by decide)
      have dd : ρ (.tmp 106) = .tuple #[x, .int .i64 K, .int .i64 0] := (hA.dep 6 (by decide) 106 rfl).trans h1
      exact runq_val (W' := W) (v := .int .i64 K) (by simp [execOp, dd, go_sem]) (Below.refl _ _) rfl
    case s9 =>
      intro val ρ W hE hz hd hA hx
      obtain ⟨x, h1, h2⟩ : ∃ x, val 6 = .tuple #[x, .int .i64 K, .int .i64 0] ∧ IsInts W .i64 x t := hd 6 (by decide)
      have dd : ρ (.tmp 106) = .tuple #[x, .int .i64 K, .int .i64 0] := (hA.dep 6 (by decide) 106 rfl).trans h1
      exact runq_val (W' := W) (v := .int .i64 0) (by simp [execOp, dd, go_sem]) (Below.refl _ _) rfl
    case s10 =>
      intro val ρ W hE hz hd hA hx
      have q7 : IsInts W .i64 (val 7) t := hd 7 (by decide)
      have d7 : ρ (.tmp 113) = val 7 := hA.dep 7 (by decide) 113 rfl
      exact runq_val (W' := W) (v := val 7) (by simp [execOp, d7, go_sem]) (Below.refl _ _) q7
    case send =>
      intro val WW hE hzz hv
      obtain ⟨-, -, -, -, -, -, -, -, -, -, q10, q11, q12, -⟩ := hv
      have q11' : val 11 = .int .i64 K := q11
      have q12' : val 12 = .int .i64 0 := q12
      replace q10 : IsInts WW .i64 (val 10) t := q10
      obtain ⟨xa, xc, e10, -⟩ := q10.spec
      rw [e10] at q10
      simp only [putD, e10, q11', q12']
      go_frame
      have hEY : Ext Y WW := hE
      have k2 := cell_ext hEY k0
      have hz2 := World.block_lt_of_cell? _ _ k2
      simp only at hz2
      have HSY := Lib.hid (HS.out.ext hEY)
      have HIY := Lib.hid (HI1.out.ext hEY)
      have HXT := Lib.hid q10
      have HR := Lib.hid (HW.out.trans' hEY)
      clear hE hzz hEY q10 q11 q11' q12 q12' e10 k0





      go_wp2_with fail
      refine callW (W0 := WW) (g := ⟨WW, Below.refl _ _⟩) (by exact (by repeat (first | exact Below.refl _ _ | refine Ext.al ?_ _ | refine Ext.dr ?_ | refine Ext.drN ?_ _ | refine Ext.gr ?_ _ | refine Ext.set ?_ (by simp) _ | (refine Ext.trans' ?_ (by assumption))))) (statedR_any ks t _ _ _ (HSY.out.ext (by exact (by repeat (first | exact Below.refl _ _ | refine Ext.al ?_ _ | refine Ext.dr ?_ | refine Ext.drN ?_ _ | refine Ext.gr ?_ _ | refine Ext.set ?_ (by simp) _ | (refine Ext.trans' ?_ (by assumption)))))) (HXT.out.ext (by exact (by repeat (first | exact Below.refl _ _ | refine Ext.al ?_ _ | refine Ext.dr ?_ | refine Ext.drN ?_ _ | refine Ext.gr ?_ _ | refine Ext.set ?_ (by simp) _ | (refine Ext.trans' ?_ (by assumption))))))) fun g1 hgr => ?_
      clear hgr
      rw [stErr_of V.out HTS.out]
      go_wp2_with fail
      refine callWR (W0 := WW) (g := g1) (by exact (by repeat (first | exact Below.refl _ _ | refine Ext.al ?_ _ | refine Ext.dr ?_ | refine Ext.drN ?_ _ | refine Ext.gr ?_ _ | refine Ext.set ?_ (by simp) _ | (refine Ext.trans' ?_ (by assumption))))) (lasts_any ks t _ _ _ (HSY.out.ext (by exact (by repeat (first | exact Below.refl _ _ | refine Ext.al ?_ _ | refine Ext.dr ?_ | refine Ext.drN ?_ _ | refine Ext.gr ?_ _ | refine Ext.set ?_ (by simp) _ | (refine Ext.trans' ?_ (by assumption)))))) (HXT.out.ext (by exact (by repeat (first | exact Below.refl _ _ | refine Ext.al ?_ _ | refine Ext.dr ?_ | refine Ext.drN ?_ _ | refine Ext.gr ?_ _ | refine Ext.set ?_ (by simp) _ | (refine Ext.trans' ?_ (by assumption))))))) (fun _ _ ⟨_, _, r, _⟩ => r) fun _ g2 hgr hr => ?_
      obtain ⟨x, rfl, -, hI⟩ := hr
      clear hgr
      rw [HLA.out.1]
      rw [HLA.out.2] at hI
      obtain ⟨D, hD⟩ : ∃ D, D = l.drop K := ⟨_, rfl⟩
      rw [← hD] at hI
      obtain ⟨a8, c8, rfl, -⟩ := hI.spec
      have HI8 := Lib.hid hI
      clear hI

      have hkl := HKL.out
      have hkn : (K : Int) ≤ (r : Int) := by omega
      have hcut := HIY.out.cut hkl (Nat.le_refl _)
      rw [List.take_of_length_le (by rw [HLN.out]; exact Nat.le_refl _)] at hcut
      rw [← hD] at hcut
      unfold sliced at hcut
      simp only [Nat.mul_one] at hcut
      clear hD
      by_cases hck : c1 = K
      · rw [if_pos hck, show c1 - K = 0 by omega] at hcut
        have HCUT := Lib.hid hcut
        clear hcut


        go_wp2_with fail
        refine callW (W0 := WW) (g := g2) (by exact (by repeat (first | exact Below.refl _ _ | refine Ext.al ?_ _ | refine Ext.dr ?_ | refine Ext.drN ?_ _ | refine Ext.gr ?_ _ | refine Ext.set ?_ (by simp) _ | (refine Ext.trans' ?_ (by assumption))))) (intsL_any D D _ _ _ (HI8.out.ext (by exact (by repeat (first | exact Below.refl _ _ | refine Ext.al ?_ _ | refine Ext.dr ?_ | refine Ext.drN ?_ _ | refine Ext.gr ?_ _ | refine Ext.set ?_ (by simp) _ | (refine Ext.trans' ?_ (by assumption)))))) (HCUT.out.ext (by exact (by repeat (first | exact Below.refl _ _ | refine Ext.al ?_ _ | refine Ext.dr ?_ | refine Ext.drN ?_ _ | refine Ext.gr ?_ _ | refine Ext.set ?_ (by simp) _ | (refine Ext.trans' ?_ (by assumption))))))) fun g3 hgr => ?_
        replace HI8 := Lib.hid (HI8.out.ext hgr)
        clear hgr
        rw [decide_eq_true rfl]
        go_wp2_with fail
        refine callW (W0 := WW) (g := g3) (by exact (by repeat (first | exact Below.refl _ _ | refine Ext.al ?_ _ | refine Ext.dr ?_ | refine Ext.drN ?_ _ | refine Ext.gr ?_ _ | refine Ext.set ?_ (by simp) _ | (refine Ext.trans' ?_ (by assumption))))) (works_any _) fun g4 hgr => ?_
        replace HI8 := Lib.hid (HI8.out.ext hgr)
        clear hgr
        go_wp2_with fail
        go_ret
        exact ⟨rfl, HR.out.trans' (grow_below WW g4)⟩

      · rw [if_neg hck] at hcut
        have HCUT := Lib.hid hcut
        clear hcut

        go_wp2_with fail
        refine callW (W0 := WW) (g := g2) (by exact (by repeat (first | exact Below.refl _ _ | refine Ext.al ?_ _ | refine Ext.dr ?_ | refine Ext.drN ?_ _ | refine Ext.gr ?_ _ | refine Ext.set ?_ (by simp) _ | (refine Ext.trans' ?_ (by assumption))))) (intsL_any D D _ _ _ (HI8.out.ext (by exact (by repeat (first | exact Below.refl _ _ | refine Ext.al ?_ _ | refine Ext.dr ?_ | refine Ext.drN ?_ _ | refine Ext.gr ?_ _ | refine Ext.set ?_ (by simp) _ | (refine Ext.trans' ?_ (by assumption)))))) (HCUT.out.ext (by exact (by repeat (first | exact Below.refl _ _ | refine Ext.al ?_ _ | refine Ext.dr ?_ | refine Ext.drN ?_ _ | refine Ext.gr ?_ _ | refine Ext.set ?_ (by simp) _ | (refine Ext.trans' ?_ (by assumption))))))) fun g5 hgr => ?_
        replace HI8 := Lib.hid (HI8.out.ext hgr)
        clear hgr
        rw [decide_eq_true rfl]
        go_wp2_with fail
        refine callW (W0 := WW) (g := g5) (by exact (by repeat (first | exact Below.refl _ _ | refine Ext.al ?_ _ | refine Ext.dr ?_ | refine Ext.drN ?_ _ | refine Ext.gr ?_ _ | refine Ext.set ?_ (by simp) _ | (refine Ext.trans' ?_ (by assumption))))) (works_any _) fun g6 hgr => ?_
        replace HI8 := Lib.hid (HI8.out.ext hgr)
        clear hgr
        go_wp2_with fail
        go_ret
        exact ⟨rfl, HR.out.trans' (grow_below WW g6)⟩
end Go.Proofs.Ytndgaklcnhoddaa
namespace Go.Proofs.Ytndgaklcnhoddaa
open Go.RowKit
open Go.ChangeShapes Go.WideShapes Go.ChangeAt in
set_option maxRecDepth 100000 in
theorem turnLasted_lifted (os : Os) (started : os.Started) (H : Type) (enc : TypeId × Value → H) :
    ReturnsInHanded {} Try.checked os 16 .any (Rows.turnLastedSpec.pre6 enc Try.prog Try.f16 Rows.turnLastedRow.domain false) (Rows.turnLastedSpec.post enc Try.prog Try.f16 false true false false) := by
  refine returnsInHanded_of_change (C := Try.checked) own started (by kernel_rfl) Try.func16
    (ChangeSpec.witness6 (enc := enc) (C := Try.checked) false ⟨#[], #[.agg #[.slice none 0 0], .slice none 0 0, .slice none 0 0, .int .u8 0], []⟩ 8 (by kernel_rfl) (by kernel_rfl) (by kernel_rfl) (by kernel_rfl)) ?_
  intro W base args ds gs before hval0 hW hcnd _
  have hval : ∀ (j : Nat) t v, Try.f16.params[j]? = some t → args[j]? = some v → Value.okWide Try.prog W .any base t v := hval0
  have hW' := hW
  obtain ⟨p, q, hA0, hV, rfl, hfz, hnd⟩ := hW
  have hA : DataW.TrodAll enc Try.prog W 0 (fun _ => true) true Try.f16.params.toList args.toList ds p := hA0
  rw [Try.params16] at hA hval
  obtain ⟨v0, vs0, d0, ds0, p0, q0, hargs, rfl, rfl, h0, r0⟩ := trodAll_cons hA
  obtain ⟨v1, vs1, d1, ds1, p1, q1, rfl, rfl, rfl, h1, r1⟩ := trodAll_cons r0
  obtain ⟨v2, vs2, d2, ds2, p2, q2, rfl, rfl, rfl, h2, r2⟩ := trodAll_cons r1
  obtain ⟨v3, vs3, d3, ds3, p3, q3, rfl, rfl, rfl, h3, r3⟩ := trodAll_cons r2
  obtain ⟨rfl, rfl, rfl⟩ := trodAll_nil r3
  obtain rfl : args = #[v0, v1, v2, v3] := by cases args; simp_all
  obtain ⟨ks, sks, rfl, hks⟩ := openHall (hval 0 24 v0 rfl rfl) h0
  obtain ⟨bs, hbs, wbs⟩ := openNumsK (k := .u8) Try.underlying52 Try.underlying5 (by kernel_rfl) (hval 1 52 v1 rfl rfl) h1
  obtain ⟨rs, hrs, wrs⟩ := openNumsK (k := .u8) Try.underlying52 Try.underlying5 (by kernel_rfl) (hval 2 52 v2 rfl rfl) h2
  obtain ⟨mm, rfl, rfl, rfl, wmm⟩ := open_int Try.underlying5 (hval 3 5 v3 rfl rfl) h3
  clear hA0 hval0
  refine (turnLasted_any ks sks v1 bs v2 rs mm W hks hbs wbs hrs wrs wmm).mono fun e W' ⟨he, hb⟩ => ?_
  subst he
  exact ⟨_, rfl, law_post laidOut (tb := 4) (hts_of (by kernel_rfl)) (by kernel_rfl) Try.underlying4 hW' rfl rfl hb⟩
theorem turnLasted_holds : Rows.TurnLastedSaid :=
  OpenClaim.holds_of_wide 16 Try.f16 rfl rfl rfl rfl rfl rfl rfl ⟨rfl, rfl, rfl, rfl, rfl⟩ rfl rfl rfl rfl rfl (by kernel_rfl) Try.func16 (by kernel_rfl)
    (of_decide_eq_true (by kernel_rfl)) (by unfold Func.isWrapper; first | (rw [if_pos (by decide +kernel)]; kernel_rfl) | (rw [if_neg (by decide +kernel)]; exact ⟨rfl, rfl⟩))
    (fun os started H enc _ => turnLasted_lifted os started H enc)
end Go.Proofs.Ytndgaklcnhoddaa
