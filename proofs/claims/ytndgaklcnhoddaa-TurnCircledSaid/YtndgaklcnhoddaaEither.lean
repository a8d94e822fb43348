/-
  The statement TurnEither holds: a state is either safe, and then some visit leads to a safe one, and no given steps doom it, or steps that are returned doom it, not both; for every hall, state and steps that are handed in. No condition.
-/
import Derived.Test.YtndgaklcnhoddaaLawB
import Derived.Test.YtndgaklcnhoddaaRb
import Derived.Test.YtndgaklcnhoddaaWf
namespace Go.Proofs.Ytndgaklcnhoddaa
open Go.RowKit Go.Shelf
theorem doomR_cases {ks s : List Int} (v : TVal ks) (hs : isSt ks s = true) : (doomRErr ks s = 0 ∧ ¬ SafeP (nxS ks) s ∧ nextErr ks s = 17 ∧ nextL ks s = []) ∨ (doomRErr ks s = 5 ∧ SafeP (nxS ks) s ∧ nextErr ks s = 0 ∧ nextL ks s ≠ []) := by
  have h0 : ¬ stErr ks s ≠ 0 := fun e => e (stErr_of v hs)
  have hle : leadsL ks allW s ≠ [] ↔ SafeP (nxS ks) s := leads_all
  unfold doomRErr nextErr nextL
  rw [if_neg h0, if_neg h0, if_neg h0]
  by_cases h : rowOf (nxS ks) s < 0
  · have hs := rowOf_neg.1 h
    have hl := hle.2 hs
    rw [if_pos h, if_neg hl]
    exact .inr ⟨rfl, hs, rfl, hl⟩
  · have hs : ¬ SafeP (nxS ks) s := fun e => h (rowOf_neg.2 e)
    have hl : leadsL ks allW s = [] := by
      by_cases e : leadsL ks allW s = []
      · exact e
      · exact absurd (hle.1 e) hs
    rw [if_neg h, if_pos hl]
    exact .inl ⟨rfl, hs, rfl, hl⟩
theorem u8s {bs : List Int} (h : ∀ x ∈ bs, (Lit.int .u8 x).wf = true) : ∀ x ∈ bs, 0 ≤ x ∧ x ≤ 255 := fun x hx => by
  have := bounds_u8 (h x hx)
  omega
set_option maxRecDepth 100000 in
set_option maxHeartbeats 4000000 in
theorem turnEither_any (ks : List Int) (kv : Value) (bv : Value) (bs : List Int) (tv : Value) (l : List (List Int × Int)) (w : World) (hv : IsInts w .i64 kv ks) (hb : IsInts w .u8 bv bs) (hw8 : ∀ x ∈ bs, (Lit.int .u8 x).wf = true) (ht : IsStps w tv l) :
    Calls Try.prog 9 #[.agg #[kv], bv, tv] w fun e W => e = .returned (.bool true) ∧ Ext w W := by
  obtain ⟨sa, cap, rfl, h1, h2, -⟩ := hv.spec
  obtain ⟨ba, bcap, rfl, h3, h4, -⟩ := hb.spec
  obtain ⟨ta, tcap, rfl, h5, h6⟩ := ht.spec
  have HV := Lib.hid hv
  have HB0 := Lib.hid hb
  have HT0 := Lib.hid ht
  have H8 := Lib.hid (u8s hw8)
  clear hv hb ht hw8
  go_enter Try.func9, Try.ntmps9
  go_upto_region 1 with (fail)
  obtain ⟨W0, hW0⟩ : ∃ W0, W0 = w.alloc (.cells #[.slice sa ks.length cap] 24) := ⟨_, rfl⟩
  have hE : Ext w W0 := by rw [hW0]; exact (by repeat (first | exact Below.refl _ _ | refine Ext.al ?_ _ | refine Ext.dr ?_ | refine Ext.drN ?_ _ | refine Ext.gr ?_ _ | refine Ext.set ?_ (by simp) _ | (refine Ext.trans' ?_ (by assumption))))
  have k0 : W0.cell? ⟨w.heap.size, 0, none⟩ = some (.slice sa ks.length cap) := by rw [hW0]; simp [go_sem]
  have hz : w.heap.size < W0.heap.size := World.block_lt_of_cell? _ _ k0
  have HS := Lib.hid (HV.out.ext hE)
  have HW := Lib.hid hE
  rw [← hW0]
  clear hW0 HV
  have HB := Lib.hid (HB0.out.ext hE)
  have HT := Lib.hid (HT0.out.ext hE)
  clear hE HB0 HT0



  go_wp2_with fail
  refine callW (W0 := W0) (g := ⟨W0, Below.refl _ _⟩) (by exact (by repeat (first | exact Below.refl _ _ | refine Ext.al ?_ _ | refine Ext.dr ?_ | refine Ext.drN ?_ _ | refine Ext.gr ?_ _ | refine Ext.set ?_ (by simp) _ | (refine Ext.trans' ?_ (by assumption))))) (fineL_any ks _ _ (HS.out.ext (by exact (by repeat (first | exact Below.refl _ _ | refine Ext.al ?_ _ | refine Ext.dr ?_ | refine Ext.drN ?_ _ | refine Ext.gr ?_ _ | refine Ext.set ?_ (by simp) _ | (refine Ext.trans' ?_ (by assumption))))))) fun g1 hgr => ?_
  clear hgr
  cases hfn : fineB ks
  · clear hfn

    go_wp2_with fail
    refine callW (W0 := W0) (g := g1) (by exact (by repeat (first | exact Below.refl _ _ | refine Ext.al ?_ _ | refine Ext.dr ?_ | refine Ext.drN ?_ _ | refine Ext.gr ?_ _ | refine Ext.set ?_ (by simp) _ | (refine Ext.trans' ?_ (by assumption))))) (works_any _) fun g2 hgr => ?_
    clear hgr
    go_wp2_with fail
    go_ret
    exact ⟨rfl, HW.out.trans' (grow_below W0 g2)⟩

  have V := Lib.hid (tval_of (of_decide_eq_true hfn))
  have n1 := V.out.n1
  have n5 := V.out.n5
  clear hfn
  by_cases hb20 : 20 < bs.length
  · have hd : decide ((20 : Int) < (bs.length : Int)) = true := decide_eq_true (by omega)
    clear hb20

    go_wp2_with fail
    refine callW (W0 := W0) (g := g1) (by exact (by repeat (first | exact Below.refl _ _ | refine Ext.al ?_ _ | refine Ext.dr ?_ | refine Ext.drN ?_ _ | refine Ext.gr ?_ _ | refine Ext.set ?_ (by simp) _ | (refine Ext.trans' ?_ (by assumption))))) (works_any _) fun g3 hgr => ?_
    clear hgr
    go_wp2_with fail
    go_ret
    exact ⟨rfl, HW.out.trans' (grow_below W0 g3)⟩

  have hd : decide ((20 : Int) < (bs.length : Int)) = false := decide_eq_false (by omega)
  clear hb20
  by_cases hl40 : 40 < l.length
  · have hd : decide ((40 : Int) < (l.length : Int)) = true := decide_eq_true (by omega)
    clear hl40

    go_wp2_with fail
    refine callW (W0 := W0) (g := g1) (by exact (by repeat (first | exact Below.refl _ _ | refine Ext.al ?_ _ | refine Ext.dr ?_ | refine Ext.drN ?_ _ | refine Ext.gr ?_ _ | refine Ext.set ?_ (by simp) _ | (refine Ext.trans' ?_ (by assumption))))) (works_any _) fun g4 hgr => ?_
    clear hgr
    go_wp2_with fail
    go_ret
    exact ⟨rfl, HW.out.trans' (grow_below W0 g4)⟩

  have hd2 : decide ((40 : Int) < (l.length : Int)) = false := decide_eq_false (by omega)
  clear hl40
  go_upto_region 3 with (fail)
  obtain ⟨U, hU⟩ : ∃ zz9, zz9 = (grow W0 g1) := ⟨_, rfl⟩
  have eU : Ext W0 U := by rw [hU]; exact (by repeat (first | exact Below.refl _ _ | refine Ext.al ?_ _ | refine Ext.dr ?_ | refine Ext.drN ?_ _ | refine Ext.gr ?_ _ | refine Ext.set ?_ (by simp) _ | (refine Ext.trans' ?_ (by assumption))))
  replace k0 := cell_ext eU k0
  replace HS := Lib.hid (HS.out.ext eU)
  replace HB := Lib.hid (HB.out.ext eU)
  replace HT := Lib.hid (HT.out.ext eU)
  replace HW := Lib.hid (HW.out.trans' eU)
  rw [← hU]
  replace hz := World.block_lt_of_cell? _ _ k0
  clear hU eU
  simp only at hz
  go_wp2_with fail
  go_loopw [7] (fun i W => ∃ k : Nat, k ≤ l.length ∧ i = .int .i64 k ∧ Ext U W) (fun i _ => l.length - (intOf i).toNat)
  case atStart => exact ⟨0, by omega, rfl, Below.refl _ _⟩
  case round =>
    obtain ⟨k, hk, rfl, hE⟩ := hrel
    have HE := Lib.hid hE
    have k1 := cell_ext hE k0
    have hz1 := World.block_lt_of_cell? _ _ k1
    simp only at hz1
    by_cases hlt : k < l.length
    · have hki : (k : Int) < (l.length : Int) := by omega
      obtain ⟨b, off, rfl, HC⟩ := HT.out.at_all (by omega)
      obtain ⟨xa, xc, hxc⟩ := HC k hlt
      obtain ⟨hqi, d0, d1⟩ := hxc wr hE
      have hbz := World.block_lt_of_cell? _ _ d0
      simp only at hbz
      obtain ⟨n, hn⟩ : ∃ n, n = (l[k]).1.length := ⟨_, rfl⟩
      rw [← hn] at d0
      clear HC hxc hqi d1 hn hE
      by_cases h10 : 10 < n
      · have hd9 : decide ((10 : Int) < (n : Int)) = true := decide_eq_true (by omega)
        clear h10
        go_wp2_with fail
        refine (works_any _).mono ?_
        rintro e W3 ⟨rfl, hE3⟩
        have HE3 := Lib.hid (HW.out.trans' (HE.out.trans' hE3))
        clear hE3
        go_wp2_with fail
        go_ret
        exact ⟨rfl, HE3.out⟩
      · have hd9 : decide ((10 : Int) < (n : Int)) = false := decide_eq_false (by omega)
        clear h10
        go_wp2_with fail
        go_roundw
        case rel => exact ⟨k + 1, by omega, by go_num, HE.out⟩
        case measure => simp [intOf]; omega
    · have hki : ¬ ((k : Int) < (l.length : Int)) := by omega
      have HSr := Lib.hid (HS.out.ext hE)
      have HBr := Lib.hid (HB.out.ext hE)
      have HTr := Lib.hid (HT.out.ext hE)
      have HR := Lib.hid (HW.out.trans' hE)
      clear hE
      obtain ⟨Y, hY⟩ : ∃ Y, Y = wr := ⟨_, rfl⟩
      subst hY





      go_wp2_with fail
      refine callWR (W0 := Y) (g := ⟨Y, Below.refl _ _⟩) (by exact (by repeat (first | exact Below.refl _ _ | refine Ext.al ?_ _ | refine Ext.dr ?_ | refine Ext.drN ?_ _ | refine Ext.gr ?_ _ | refine Ext.set ?_ (by simp) _ | (refine Ext.trans' ?_ (by assumption))))) (stateL_any ks bs _ _ _ (HSr.out.ext (by exact (by repeat (first | exact Below.refl _ _ | refine Ext.al ?_ _ | refine Ext.dr ?_ | refine Ext.drN ?_ _ | refine Ext.gr ?_ _ | refine Ext.set ?_ (by simp) _ | (refine Ext.trans' ?_ (by assumption)))))) (HBr.out.ext (by exact (by repeat (first | exact Below.refl _ _ | refine Ext.al ?_ _ | refine Ext.dr ?_ | refine Ext.drN ?_ _ | refine Ext.gr ?_ _ | refine Ext.set ?_ (by simp) _ | (refine Ext.trans' ?_ (by assumption)))))) H8.out V.out) (fun _ _ ⟨_, _, _, r, _⟩ => r) fun _ g1 hgr hr => ?_
      obtain ⟨x, s, rfl, -, hI, hst⟩ := hr
      clear hgr
      obtain ⟨a0, c0, rfl, -⟩ := hI.spec
      have HL := Lib.hid hI
      have HST := Lib.hid hst
      clear hI hst

      go_wp2_with fail
      refine callWR (W0 := Y) (g := g1) (by exact (by repeat (first | exact Below.refl _ _ | refine Ext.al ?_ _ | refine Ext.dr ?_ | refine Ext.drN ?_ _ | refine Ext.gr ?_ _ | refine Ext.set ?_ (by simp) _ | (refine Ext.trans' ?_ (by assumption))))) (doomF_any ks s _ _ _ (HSr.out.ext (by exact (by repeat (first | exact Below.refl _ _ | refine Ext.al ?_ _ | refine Ext.dr ?_ | refine Ext.drN ?_ _ | refine Ext.gr ?_ _ | refine Ext.set ?_ (by simp) _ | (refine Ext.trans' ?_ (by assumption)))))) (HL.out.ext (by exact (by repeat (first | exact Below.refl _ _ | refine Ext.al ?_ _ | refine Ext.dr ?_ | refine Ext.drN ?_ _ | refine Ext.gr ?_ _ | refine Ext.set ?_ (by simp) _ | (refine Ext.trans' ?_ (by assumption))))))) (fun _ _ ⟨_, _, _, r, _⟩ => r) fun _ g2 hgr hr => ?_
      obtain ⟨x, dl, rfl, -, hI, hbad, hok⟩ := hr
      replace HL := Lib.hid (HL.out.ext hgr)
      clear hgr
      obtain ⟨a1, c1, rfl, -, -⟩ := hI.spec
      have HI := Lib.hid hI
      have HBAD := Lib.hid hbad
      have HOK := Lib.hid hok
      clear hI hbad hok

      go_wp2_with fail
      refine callWR (W0 := Y) (g := g2) (by exact (by repeat (first | exact Below.refl _ _ | refine Ext.al ?_ _ | refine Ext.dr ?_ | refine Ext.drN ?_ _ | refine Ext.gr ?_ _ | refine Ext.set ?_ (by simp) _ | (refine Ext.trans' ?_ (by assumption))))) (next_any ks s _ _ _ (HSr.out.ext (by exact (by repeat (first | exact Below.refl _ _ | refine Ext.al ?_ _ | refine Ext.dr ?_ | refine Ext.drN ?_ _ | refine Ext.gr ?_ _ | refine Ext.set ?_ (by simp) _ | (refine Ext.trans' ?_ (by assumption)))))) (HL.out.ext (by exact (by repeat (first | exact Below.refl _ _ | refine Ext.al ?_ _ | refine Ext.dr ?_ | refine Ext.drN ?_ _ | refine Ext.gr ?_ _ | refine Ext.set ?_ (by simp) _ | (refine Ext.trans' ?_ (by assumption))))))) (fun _ _ ⟨_, _, r, _⟩ => r) fun _ g3 hgr hr => ?_
      obtain ⟨x, rfl, -, hN⟩ := hr
      replace HL := Lib.hid (HL.out.ext hgr)
      replace HI := Lib.hid (HI.out.ext hgr)
      clear hgr
      obtain ⟨a2, c2, rfl, -⟩ := hN.spec
      clear hN
      obtain ⟨ge, hge⟩ : ∃ ge, ge = doomErr ks s l := ⟨_, rfl⟩
      have cg := fun w h1 h2 h3 => checkDoom_any ks s l (.slice sa ks.length cap) (.slice a0 s.length c0) (.slice ta l.length tcap) w h1 h2 h3
      have cr := fun w h1 h2 h3 => checkDoomR_any ks s l (.slice sa ks.length cap) (.slice a0 s.length c0) (.slice ta l.length tcap) w h1 h2 h3
      rw [← hge] at cg cr
      have CG := Lib.hid cg
      have CR := Lib.hid cr
      have HGE := Lib.hid hge
      clear cg cr hge
      go_wp2_with fail
      refine callW (W0 := Y) (g := g3) (by exact (by repeat (first | exact Below.refl _ _ | refine Ext.al ?_ _ | refine Ext.dr ?_ | refine Ext.drN ?_ _ | refine Ext.gr ?_ _ | refine Ext.set ?_ (by simp) _ | (refine Ext.trans' ?_ (by assumption))))) (CG.out _ (HSr.out.ext (by exact (by repeat (first | exact Below.refl _ _ | refine Ext.al ?_ _ | refine Ext.dr ?_ | refine Ext.drN ?_ _ | refine Ext.gr ?_ _ | refine Ext.set ?_ (by simp) _ | (refine Ext.trans' ?_ (by assumption)))))) (HL.out.ext (by exact (by repeat (first | exact Below.refl _ _ | refine Ext.al ?_ _ | refine Ext.dr ?_ | refine Ext.drN ?_ _ | refine Ext.gr ?_ _ | refine Ext.set ?_ (by simp) _ | (refine Ext.trans' ?_ (by assumption)))))) (HTr.out.ext (by exact (by repeat (first | exact Below.refl _ _ | refine Ext.al ?_ _ | refine Ext.dr ?_ | refine Ext.drN ?_ _ | refine Ext.gr ?_ _ | refine Ext.set ?_ (by simp) _ | (refine Ext.trans' ?_ (by assumption))))))) fun g4 hgr => ?_
      replace HL := Lib.hid (HL.out.ext hgr)
      replace HI := Lib.hid (HI.out.ext hgr)
      clear hgr
      rcases doomR_cases V.out HST.out with ⟨e1, -, e2, e3⟩ | ⟨e1, e0, e2, e3⟩
      · have HDE := Lib.hid (HOK.out e1).1
        rw [e1, e2, e3]
        clear e1 e2 e3

        go_wp2_with fail
        refine callW (W0 := Y) (g := g4) (by exact (by repeat (first | exact Below.refl _ _ | refine Ext.al ?_ _ | refine Ext.dr ?_ | refine Ext.drN ?_ _ | refine Ext.gr ?_ _ | refine Ext.set ?_ (by simp) _ | (refine Ext.trans' ?_ (by assumption))))) (checkDoom_any ks s dl _ _ _ _ (HSr.out.ext (by exact (by repeat (first | exact Below.refl _ _ | refine Ext.al ?_ _ | refine Ext.dr ?_ | refine Ext.drN ?_ _ | refine Ext.gr ?_ _ | refine Ext.set ?_ (by simp) _ | (refine Ext.trans' ?_ (by assumption)))))) (HL.out.ext (by exact (by repeat (first | exact Below.refl _ _ | refine Ext.al ?_ _ | refine Ext.dr ?_ | refine Ext.drN ?_ _ | refine Ext.gr ?_ _ | refine Ext.set ?_ (by simp) _ | (refine Ext.trans' ?_ (by assumption)))))) (HI.out.ext (by exact (by repeat (first | exact Below.refl _ _ | refine Ext.al ?_ _ | refine Ext.dr ?_ | refine Ext.drN ?_ _ | refine Ext.gr ?_ _ | refine Ext.set ?_ (by simp) _ | (refine Ext.trans' ?_ (by assumption))))))) fun g5 hgr => ?_
        replace HL := Lib.hid (HL.out.ext hgr)
        replace HI := Lib.hid (HI.out.ext hgr)
        clear hgr
        rw [HDE.out]
        go_wp2_with fail
        refine callW (W0 := Y) (g := g5) (by exact (by repeat (first | exact Below.refl _ _ | refine Ext.al ?_ _ | refine Ext.dr ?_ | refine Ext.drN ?_ _ | refine Ext.gr ?_ _ | refine Ext.set ?_ (by simp) _ | (refine Ext.trans' ?_ (by assumption))))) (checkDoomR_any ks s dl _ _ _ _ (HSr.out.ext (by exact (by repeat (first | exact Below.refl _ _ | refine Ext.al ?_ _ | refine Ext.dr ?_ | refine Ext.drN ?_ _ | refine Ext.gr ?_ _ | refine Ext.set ?_ (by simp) _ | (refine Ext.trans' ?_ (by assumption)))))) (HL.out.ext (by exact (by repeat (first | exact Below.refl _ _ | refine Ext.al ?_ _ | refine Ext.dr ?_ | refine Ext.drN ?_ _ | refine Ext.gr ?_ _ | refine Ext.set ?_ (by simp) _ | (refine Ext.trans' ?_ (by assumption)))))) (HI.out.ext (by exact (by repeat (first | exact Below.refl _ _ | refine Ext.al ?_ _ | refine Ext.dr ?_ | refine Ext.drN ?_ _ | refine Ext.gr ?_ _ | refine Ext.set ?_ (by simp) _ | (refine Ext.trans' ?_ (by assumption))))))) fun g6 hgr => ?_
        replace HL := Lib.hid (HL.out.ext hgr)
        replace HI := Lib.hid (HI.out.ext hgr)
        clear hgr
        rw [HDE.out]
        go_wp2_with fail
        refine callW (W0 := Y) (g := g6) (by exact (by repeat (first | exact Below.refl _ _ | refine Ext.al ?_ _ | refine Ext.dr ?_ | refine Ext.drN ?_ _ | refine Ext.gr ?_ _ | refine Ext.set ?_ (by simp) _ | (refine Ext.trans' ?_ (by assumption))))) (works_any _) fun g7 hgr => ?_
        replace HL := Lib.hid (HL.out.ext hgr)
        replace HI := Lib.hid (HI.out.ext hgr)
        clear hgr
        go_wp2_with fail
        go_ret
        exact ⟨rfl, HR.out.trans' (grow_below Y g7)⟩

      · have hdl : dl = [] := HBAD.out (by rw [e1]; decide)
        subst hdl
        obtain ⟨nl, hnl⟩ : ∃ nl, nl = nextL ks s := ⟨_, rfl⟩
        rw [e1, e2]
        rw [← hnl] at e3 ⊢
        have hg0 : ge ≠ 0 := fun h => doom_sound (HGE.out.symm.trans h) e0
        have hg1 : (ge != 0) = true := by simpa using hg0
        have hg2 : (ge == 0) = false := by simpa using hg0
        obtain ⟨y, nl, rfl⟩ := List.exists_cons_of_ne_nil e3
        have hlz : decide ((0 : Int) < ((y :: nl).length : Int)) = true := decide_eq_true (by rw [List.length_cons]; omega)
        have hlz2 : decide ((0 : Int) < (nl.length : Int) + 1) = true := decide_eq_true (by omega)
        clear e0 e1 e2 e3 hnl hg0
        go_wp2_with fail
        refine callW (W0 := Y) (g := g4) (by exact (by repeat (first | exact Below.refl _ _ | refine Ext.al ?_ _ | refine Ext.dr ?_ | refine Ext.drN ?_ _ | refine Ext.gr ?_ _ | refine Ext.set ?_ (by simp) _ | (refine Ext.trans' ?_ (by assumption))))) (CR.out _ (HSr.out.ext (by exact (by repeat (first | exact Below.refl _ _ | refine Ext.al ?_ _ | refine Ext.dr ?_ | refine Ext.drN ?_ _ | refine Ext.gr ?_ _ | refine Ext.set ?_ (by simp) _ | (refine Ext.trans' ?_ (by assumption)))))) (HL.out.ext (by exact (by repeat (first | exact Below.refl _ _ | refine Ext.al ?_ _ | refine Ext.dr ?_ | refine Ext.drN ?_ _ | refine Ext.gr ?_ _ | refine Ext.set ?_ (by simp) _ | (refine Ext.trans' ?_ (by assumption)))))) (HTr.out.ext (by exact (by repeat (first | exact Below.refl _ _ | refine Ext.al ?_ _ | refine Ext.dr ?_ | refine Ext.drN ?_ _ | refine Ext.gr ?_ _ | refine Ext.set ?_ (by simp) _ | (refine Ext.trans' ?_ (by assumption))))))) fun g8 hgr => ?_
        replace HL := Lib.hid (HL.out.ext hgr)
        replace HI := Lib.hid (HI.out.ext hgr)
        clear hgr
        go_wp2_with fail
        refine callW (W0 := Y) (g := g8) (by exact (by repeat (first | exact Below.refl _ _ | refine Ext.al ?_ _ | refine Ext.dr ?_ | refine Ext.drN ?_ _ | refine Ext.gr ?_ _ | refine Ext.set ?_ (by simp) _ | (refine Ext.trans' ?_ (by assumption))))) (works_any _) fun g9 hgr => ?_
        replace HL := Lib.hid (HL.out.ext hgr)
        replace HI := Lib.hid (HI.out.ext hgr)
        clear hgr
        go_wp2_with fail
        go_ret
        exact ⟨rfl, HR.out.trans' (grow_below Y g9)⟩
end Go.Proofs.Ytndgaklcnhoddaa
namespace Go.Proofs.Ytndgaklcnhoddaa
open Go.RowKit
open Go.ChangeShapes Go.WideShapes Go.ChangeAt in
set_option maxRecDepth 100000 in
theorem turnEither_lifted (os : Os) (started : os.Started) (H : Type) (enc : TypeId × Value → H) :
    ReturnsInHanded {} Try.checked os 9 .any (Rows.turnEitherSpec.pre6 enc Try.prog Try.f9 Rows.turnEitherRow.domain false) (Rows.turnEitherSpec.post enc Try.prog Try.f9 false true false false) := by
  refine returnsInHanded_of_change (C := Try.checked) own started (by kernel_rfl) Try.func9
    (ChangeSpec.witness6 (enc := enc) (C := Try.checked) false ⟨#[], #[.agg #[.slice none 0 0], .slice none 0 0, .slice none 0 0], []⟩ 8 (by kernel_rfl) (by kernel_rfl) (by kernel_rfl) (by kernel_rfl)) ?_
  intro W base args ds gs before hval0 hW hcnd _
  have hval : ∀ (j : Nat) t v, Try.f9.params[j]? = some t → args[j]? = some v → Value.okWide Try.prog W .any base t v := hval0
  have hW' := hW
  obtain ⟨p, q, hA0, hV, rfl, hfz, hnd⟩ := hW
  have hA : DataW.TrodAll enc Try.prog W 0 (fun _ => true) true Try.f9.params.toList args.toList ds p := hA0
  rw [Try.params9] at hA hval
  obtain ⟨v0, vs0, d0, ds0, p0, q0, hargs, rfl, rfl, h0, r0⟩ := trodAll_cons hA
  obtain ⟨v1, vs1, d1, ds1, p1, q1, rfl, rfl, rfl, h1, r1⟩ := trodAll_cons r0
  obtain ⟨v2, vs2, d2, ds2, p2, q2, rfl, rfl, rfl, h2, r2⟩ := trodAll_cons r1
  obtain ⟨rfl, rfl, rfl⟩ := trodAll_nil r2
  obtain rfl : args = #[v0, v1, v2] := by cases args; simp_all
  obtain ⟨ks, sks, rfl, hks⟩ := openHall (hval 0 24 v0 rfl rfl) h0
  obtain ⟨bs, hbs, wbs⟩ := openNumsK (k := .u8) Try.underlying52 Try.underlying5 (by kernel_rfl) (hval 1 52 v1 rfl rfl) h1
  obtain ⟨l, hl⟩ := openSteps (hval 2 41 v2 rfl rfl) h2
  clear hA0 hval0
  refine (turnEither_any ks sks v1 bs v2 l W hks hbs wbs hl).mono fun e W' ⟨he, hb⟩ => ?_
  subst he
  exact ⟨_, rfl, law_post laidOut (tb := 4) (hts_of (by kernel_rfl)) (by kernel_rfl) Try.underlying4 hW' rfl rfl hb⟩
theorem turnEither_holds : Rows.TurnEitherSaid :=
  OpenClaim.holds_of_wide 9 Try.f9 rfl rfl rfl rfl rfl rfl rfl ⟨rfl, rfl, rfl, rfl, rfl⟩ rfl rfl rfl rfl rfl (by kernel_rfl) Try.func9 (by kernel_rfl)
    (of_decide_eq_true (by kernel_rfl)) (by unfold Func.isWrapper; first | (rw [if_pos (by decide +kernel)]; kernel_rfl) | (rw [if_neg (by decide +kernel)]; exact ⟨rfl, rfl⟩))
    (fun os started H enc _ => turnEither_lifted os started H enc)
end Go.Proofs.Ytndgaklcnhoddaa
