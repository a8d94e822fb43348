/-
  The statement TurnCounted holds: what is added in some turns, and what the screws hold at the end, is together what they held at the beginning, and one for each pull; a turn in which a screw would be full is not done; for every hall, state and turns that are handed in. No condition.
-/
import Derived.Test.YtndgaklcnhoddaaLawB
import Derived.Test.YtndgaklcnhoddaaEither
import Derived.Test.YtndgaklcnhoddaaOpenP
import Derived.Test.YtndgaklcnhoddaaSumM
import Derived.Test.YtndgaklcnhoddaaPow
namespace Go.Proofs.Ytndgaklcnhoddaa
open Go.RowKit Go.Shelf
theorem turnErr_of {ks s ps : List Int} {v : Int} (V : TVal ks) (hs : isSt ks s = true) (hp : incP ks.length 0 ps = true) (hv : inR 0 ((ks.length : Int) - 1) v = true) : turnErr ks s ps v = if fullP (fun i => ps.contains (i : Int)) ks s then 17 else 0 := by
  unfold turnErr
  rw [if_neg (fun e => e (stErr_of V hs)), if_pos ⟨hp, hv⟩]
theorem bits_inc {n b : Nat} : incP n 0 (bitsL n b) = true := incP_of (bits_sorted n b) fun x hx => ⟨(bits_mem.1 hx).1, (bits_mem.1 hx).2.1⟩
/-- one turn, by the bits of those that pull -/
theorem turn_by {ks s : List Int} {b w : Nat} (V : TVal ks) (hs : isSt ks s = true) (hw : w < ks.length) :
    (fullP (fun i => (bitsL ks.length b).contains (i : Int)) ks s = true ∧ turnErr ks s (bitsL ks.length b) w = 17 ∧ turnL ks s (bitsL ks.length b) w = [] ∧ turnN ks s (bitsL ks.length b) w = 0) ∨
    (fullP (fun i => (bitsL ks.length b).contains (i : Int)) ks s = false ∧ turnErr ks s (bitsL ks.length b) w = 0 ∧ turnL ks s (bitsL ks.length b) w = visit (upP (fun i => (bitsL ks.length b).contains (i : Int)) s) w ∧ turnN ks s (bitsL ks.length b) w = gt (upP (fun i => (bitsL ks.length b).contains (i : Int)) s) w) := by
  have e := turnErr_of (v := (w : Int)) V hs bits_inc (inR_iff.2 (by omega)) (ps := bitsL ks.length b)
  cases hf : fullP (fun i => (bitsL ks.length b).contains (i : Int)) ks s
  · rw [hf, if_neg (by simp)] at e
    exact .inr ⟨rfl, e, by unfold turnL; rw [if_pos e]; rfl, by unfold turnN; rw [if_pos e]; rfl⟩
  · rw [hf, if_pos rfl] at e
    exact .inl ⟨rfl, e, by unfold turnL; rw [if_neg (by rw [e]; decide)], by unfold turnN; rw [if_neg (by rw [e]; decide)]⟩
theorem IsRows.pairs {w : World} {v : Value} {l : List (Int × Int)} (h : IsRows w 2 v (l.map pairCells)) : ∃ sa cap, v = .slice sa l.length cap ∧ (0 < l.length → ∃ b off, sa = some ⟨b, off, none⟩ ∧ ∀ W, Ext w W → ∀ i, (hi : i < l.length) → W.cell? ⟨b, off + i * 2, none⟩ = some (.int .u8 (l[i]).1) ∧ W.cell? ⟨b, off + i * 2 + 1, none⟩ = some (.int .u8 (l[i]).2)) := by
  obtain ⟨sa, cap, h1, h2, h3, h4⟩ := h
  refine ⟨sa, cap, by simpa using h1, fun hl => ?_⟩
  rcases h4 with h4 | ⟨b, off, rfl, h4⟩
  · have := List.map_eq_nil_iff.1 h4
    rw [this] at hl; simp at hl
  · refine ⟨b, off, rfl, fun W hW i hi => ?_⟩
    have c0 := h4 i (by simpa using hi) 0 (by simp [pairCells])
    have c1 := h4 i (by simpa using hi) 1 (by simp [pairCells])
    simp only [List.getElem_map, pairCells, List.getElem_cons_zero, List.getElem_cons_succ, Nat.add_zero] at c0 c1
    exact ⟨cell_ext hW c0, cell_ext hW c1⟩
def IsPrs (w : World) (v : Value) (l : List (Int × Int)) : Prop := IsRows w 2 v (l.map pairCells)
theorem IsPrs.ext {w w' : World} (e : Ext w w') {v : Value} {l : List (Int × Int)} (h : IsPrs w v l) : IsPrs w' v l := IsRows.ext e h
theorem IsPrs.spec {w : World} {sa : Option Addr} {n cap : Nat} {l : List (Int × Int)} (h : IsPrs w (.slice sa n cap) l) (hl : 0 < l.length) : ∃ b off, sa = some ⟨b, off, none⟩ ∧ ∀ W, Ext w W → ∀ i, (hi : i < l.length) → W.cell? ⟨b, off + i * 2, none⟩ = some (.int .u8 (l[i]).1) ∧ W.cell? ⟨b, off + i * 2 + 1, none⟩ = some (.int .u8 (l[i]).2) := by
  obtain ⟨sa', cap', e, h2⟩ := IsRows.pairs h
  cases e
  exact h2 hl
theorem visit_ups {ks s : List Int} {p : Nat → Bool} (v : TVal ks) (hs : isSt ks s = true) (hf : fullP p ks s = false) (w : Nat) : isSt ks (visit (upP p s) w) = true :=
  visit_st (up_st hs hf) (fun i hi => by have := v.at_ i hi; omega) w
def CntRel (ks : List Int) (n : Nat) (U : World) (xv sv iv : Value) (W : World) : Prop := ∃ (m : Nat) (t : List Int), m ≤ n ∧ iv = .int .i64 m ∧ isSt ks t = true ∧ IsInts W .i64 xv t ∧ sv = .int .i64 t.sum ∧ Ext U W
set_option maxRecDepth 100000 in
set_option maxHeartbeats 8000000 in
theorem turnCounted_any (ks : List Int) (kv : Value) (bv : Value) (bs : List Int) (tv : Value) (l : List (Int × Int)) (w : World) (hv : IsInts w .i64 kv ks) (hb : IsInts w .u8 bv bs) (hw8 : ∀ x ∈ bs, (Lit.int .u8 x).wf = true) (ht : IsRows w 2 tv (l.map pairCells)) (hwt : ∀ x ∈ l, (Lit.int .u8 x.1).wf = true ∧ (Lit.int .u8 x.2).wf = true) :
    Calls Try.prog 10 #[.agg #[kv], bv, tv] w fun e W => e = .returned (.bool true) ∧ Ext w W := by
  obtain ⟨sa, cap, rfl, h1, h2, -⟩ := hv.spec
  obtain ⟨ba, bcap, rfl, h3, h4, -⟩ := hb.spec
  obtain ⟨ta, tcap, rfl, -⟩ := ht.pairs
  have HV := Lib.hid hv
  have HB0 := Lib.hid hb
  have HT0 := Lib.hid (show IsPrs w _ l from ht)
  have H8 := Lib.hid (u8s hw8)
  have HWT := Lib.hid hwt
  clear hv hb ht hw8 hwt
  go_enter Try.func10, Try.ntmps10
  go_upto_region 1 with (fail)
  obtain ⟨W0, hW0⟩ : ∃ W0, W0 = w.alloc (.cells #[.slice sa ks.length cap] 24) := ⟨_, rfl⟩
  have hE : Ext w W0 := by rw [hW0]; exact (by repeat (first | exact Below.refl _ _ | refine Ext.al ?_ _ | refine Ext.dr ?_ | refine Ext.drN ?_ _ | refine Ext.gr ?_ _ | refine Ext.set ?_ (by simp) _ | (refine Ext.trans' ?_ (by assumption))))
  have k0 : W0.cell? ⟨w.heap.size, 0, none⟩ = some (.slice sa ks.length cap) := by rw [hW0]; simp [go_sem]
  have hz : w.heap.size < W0.heap.size := World.block_lt_of_cell? _ _ k0
  have HS := Lib.hid (HV.out.ext hE)
  have HW := Lib.hid hE
  rw [← hW0]
  clear hW0 HV
  have HB := Lib.hid (HB0.out.ext hE)
  have HT := Lib.hid (HT0.out.ext hE)
  clear hE HB0 HT0



  go_wp2_with fail
  refine callW (W0 := W0) (g := ⟨W0, Below.refl _ _⟩) (by exact (by repeat (first | exact Below.refl _ _ | refine Ext.al ?_ _ | refine Ext.dr ?_ | refine Ext.drN ?_ _ | refine Ext.gr ?_ _ | refine Ext.set ?_ (by simp) _ | (refine Ext.trans' ?_ (by assumption))))) (fineL_any ks _ _ (HS.out.ext (by exact (by repeat (first | exact Below.refl _ _ | refine Ext.al ?_ _ | refine Ext.dr ?_ | refine Ext.drN ?_ _ | refine Ext.gr ?_ _ | refine Ext.set ?_ (by simp) _ | (refine Ext.trans' ?_ (by assumption))))))) fun g1 hgr => ?_
  clear hgr
  cases hfn : fineB ks
  · clear hfn

    go_wp2_with fail
    refine callW (W0 := W0) (g := g1) (by exact (by repeat (first | exact Below.refl _ _ | refine Ext.al ?_ _ | refine Ext.dr ?_ | refine Ext.drN ?_ _ | refine Ext.gr ?_ _ | refine Ext.set ?_ (by simp) _ | (refine Ext.trans' ?_ (by assumption))))) (works_any _) fun g2 hgr => ?_
    clear hgr
    go_wp2_with fail
    go_ret
    exact ⟨rfl, HW.out.trans' (grow_below W0 g2)⟩

  have V := Lib.hid (tval_of (of_decide_eq_true hfn))
  have n1 := V.out.n1
  have n5 := V.out.n5
  clear hfn
  by_cases hb20 : 20 < bs.length
  · have hd : decide ((20 : Int) < (bs.length : Int)) = true := decide_eq_true (by omega)
    clear hb20

    go_wp2_with fail
    refine callW (W0 := W0) (g := g1) (by exact (by repeat (first | exact Below.refl _ _ | refine Ext.al ?_ _ | refine Ext.dr ?_ | refine Ext.drN ?_ _ | refine Ext.gr ?_ _ | refine Ext.set ?_ (by simp) _ | (refine Ext.trans' ?_ (by assumption))))) (works_any _) fun g3 hgr => ?_
    clear hgr
    go_wp2_with fail
    go_ret
    exact ⟨rfl, HW.out.trans' (grow_below W0 g3)⟩

  have hd : decide ((20 : Int) < (bs.length : Int)) = false := decide_eq_false (by omega)
  clear hb20
  by_cases hl60 : 60 < l.length
  · have hd : decide ((60 : Int) < (l.length : Int)) = true := decide_eq_true (by omega)
    clear hl60

    go_wp2_with fail
    refine callW (W0 := W0) (g := g1) (by exact (by repeat (first | exact Below.refl _ _ | refine Ext.al ?_ _ | refine Ext.dr ?_ | refine Ext.drN ?_ _ | refine Ext.gr ?_ _ | refine Ext.set ?_ (by simp) _ | (refine Ext.trans' ?_ (by assumption))))) (works_any _) fun g4 hgr => ?_
    clear hgr
    go_wp2_with fail
    go_ret
    exact ⟨rfl, HW.out.trans' (grow_below W0 g4)⟩

  have hd2 : decide ((60 : Int) < (l.length : Int)) = false := decide_eq_false (by omega)
  have hl60' : l.length ≤ 60 := by omega
  clear hl60
  go_wp2_with fail
  refine callWR (W0 := W0) (g := g1) (by exact (by repeat (first | exact Below.refl _ _ | refine Ext.al ?_ _ | refine Ext.dr ?_ | refine Ext.drN ?_ _ | refine Ext.gr ?_ _ | refine Ext.set ?_ (by simp) _ | (refine Ext.trans' ?_ (by assumption))))) (stateL_any ks bs _ _ _ (HS.out.ext (by exact (by repeat (first | exact Below.refl _ _ | refine Ext.al ?_ _ | refine Ext.dr ?_ | refine Ext.drN ?_ _ | refine Ext.gr ?_ _ | refine Ext.set ?_ (by simp) _ | (refine Ext.trans' ?_ (by assumption)))))) (HB.out.ext (by exact (by repeat (first | exact Below.refl _ _ | refine Ext.al ?_ _ | refine Ext.dr ?_ | refine Ext.drN ?_ _ | refine Ext.gr ?_ _ | refine Ext.set ?_ (by simp) _ | (refine Ext.trans' ?_ (by assumption)))))) H8.out V.out) (fun _ _ ⟨_, _, _, r, _⟩ => r) fun _ g5 hgr hr => ?_
  obtain ⟨x, s, rfl, -, hI, hst⟩ := hr
  clear hgr
  obtain ⟨a0, c0, rfl, -⟩ := hI.spec
  have HL := Lib.hid hI
  have HST := Lib.hid hst
  have hsl := isSt_len hst
  have hs0 : 0 < s.length := by omega
  have HSL := Lib.hid hsl
  have hs5 : s.length ≤ 5 := by omega
  clear hI hst hsl

  go_upto_region 4 with (fail)
  obtain ⟨U, hU⟩ : ∃ zz9, zz9 = (grow W0 g5) := ⟨_, rfl⟩
  have eU : Ext W0 U := by rw [hU]; exact (by repeat (first | exact Below.refl _ _ | refine Ext.al ?_ _ | refine Ext.dr ?_ | refine Ext.drN ?_ _ | refine Ext.gr ?_ _ | refine Ext.set ?_ (by simp) _ | (refine Ext.trans' ?_ (by assumption))))
  have eUc : Ext (grow W0 g5) U := by rw [hU]; exact (by repeat (first | exact Below.refl _ _ | refine Ext.al ?_ _ | refine Ext.dr ?_ | refine Ext.drN ?_ _ | refine Ext.gr ?_ _ | refine Ext.set ?_ (by simp) _ | (refine Ext.trans' ?_ (by assumption))))
  replace k0 := cell_ext eU k0
  replace HS := Lib.hid (HS.out.ext eU)
  replace HB := Lib.hid (HB.out.ext eU)
  replace HT := Lib.hid (HT.out.ext eU)
  replace HL := Lib.hid (HL.out.ext eUc)
  replace HW := Lib.hid (HW.out.trans' eU)
  rw [← hU]
  replace hz := World.block_lt_of_cell? _ _ k0
  clear hU eU eUc
  simp only at hz
  obtain ⟨xb, xo, rfl, hxz, hxc⟩ := HL.out.at_all hs0
  have HXC := Lib.hid (hxc U (Below.refl _ _))
  clear hxc
  go_wp2_with fail
  go_loop [8, 9] (fun sv iv => ∃ k : Nat, k ≤ s.length ∧ iv = .int .i64 k ∧ sv = .int .i64 (s.take k).sum) (fun _ iv => s.length - (intOf iv).toNat)
  case atStart => exact ⟨0, by omega, rfl, by simp⟩
  case round =>
    obtain ⟨k, hk, rfl, rfl⟩ := hrel
    by_cases hlt : k < s.length
    · have hki : (k : Int) < (s.length : Int) := by omega
      have c0 := HXC.out k hlt
      have h12 := st_le12 V.out HST.out s[k] (List.getElem_mem hlt)
      rw [gt_get hlt] at h12
      have hbd := st_sum V.out HST.out k
      have htk := take_sum hlt
      obtain ⟨x, hx⟩ : ∃ x, x = gt s k := ⟨_, rfl⟩
      have htk2 : (s.take (k + 1)).sum = (s.take k).sum + x := by rw [hx]; exact htk
      rw [← hx] at c0 h12
      obtain ⟨σ, hσ⟩ : ∃ σ, σ = (s.take k).sum := ⟨_, rfl⟩
      rw [← hσ] at hbd htk2 ⊢
      have HTK := Lib.hid htk2
      clear htk htk2 hx hσ
      go_wp2_with fail
      go_round
      case rel => exact ⟨k + 1, by omega, by go_num, by rw [HTK.out]⟩
      case measure => simp [intOf]; omega
    · have hki : ¬ ((k : Int) < (s.length : Int)) := by omega
      have hall : (s.take k).sum = s.sum := by rw [List.take_of_length_le (by omega)]
      rw [hall]
      clear hall
      go_wp2_with fail
      go_loopw [7, 8, 10] (fun xv sv iv W => CntRel ks l.length U xv sv iv W) (fun _ _ iv _ => l.length - (intOf iv).toNat)
      case atStart => exact ⟨0, s, by omega, rfl, HST.out, HL.out, rfl, Below.refl _ _⟩
      case round =>
        obtain ⟨m, t, hm, rfl, hst, hti, rfl, hE⟩ := hrel
        have hbt := st_sum V.out hst t.length
        rw [List.take_length] at hbt
        have htl := isSt_len hst
        have ht0 : 0 < t.length := by omega
        obtain ⟨ya, yc, rfl, y1, y2, -⟩ := hti.spec
        have HTS := Lib.hid hst
        have HTI := Lib.hid hti
        have HE := Lib.hid hE
        have HTL := Lib.hid htl
        have k1 := cell_ext hE k0
        have hz1 := World.block_lt_of_cell? _ _ k1
        simp only at hz1
        obtain ⟨σ, hσ⟩ : ∃ σ, σ = t.sum := ⟨_, rfl⟩
        rw [← hσ] at hbt ⊢
        have HSG := Lib.hid hσ
        clear hst hti htl hσ
        by_cases hlm : m < l.length
        · have hmi : (m : Int) < (l.length : Int) := by omega
          obtain ⟨tb, to, rfl, htc⟩ := HT.out.spec (by omega)
          have HTC := Lib.hid htc
          obtain ⟨d0, d1⟩ := htc wr hE m hlm
          have hwt := HWT.out l[m] (List.getElem_mem hlm)
          obtain ⟨pq, hpq⟩ : ∃ pq, pq = l[m] := ⟨_, rfl⟩
          rw [← hpq] at d0 d1 hwt
          obtain ⟨p, q⟩ := pq
          simp only at d0 d1 hwt
          have hp8 := bounds_u8 hwt.1
          have hq8 := bounds_u8 hwt.2
          have hdz := World.block_lt_of_cell? _ _ d0
          simp only at hdz
          have HSr := Lib.hid (HS.out.ext hE)
          -- the bits of those that pull
          have hA := pow5 n5
          have hsh := shlw5 n5
          obtain ⟨A, hAe⟩ : ∃ A, A = 2 ^ ks.length := ⟨_, rfl⟩
          rw [← hAe] at hA hsh
          obtain ⟨P, hP⟩ : ∃ P : Nat, p = (P : Int) := ⟨p.toNat, by omega⟩
          obtain ⟨B, hB⟩ : ∃ B : Nat, B = P % A := ⟨_, rfl⟩
          have hBA : B < A := by rw [hB]; exact Nat.mod_lt _ (by omega)
          have hBp : B < 2 ^ ks.length := by rw [← hAe]; exact hBA
          have hBt : Int.tmod p (A : Int) = (B : Int) := by rw [hP, hB, Int.tmod_eq_emod_of_nonneg (by omega)]; rfl
          have hAn : ¬ ((A : Int) = 0) := by omega
          have hAn2 : ¬ (A = 0) := by omega
          have hwB : IntKind.i64.wrap (B : Int) = (B : Int) := IntWalk.i64_in _ (by omega)
          have hwp : IntKind.i64.wrap p = p := IntWalk.i64_in _ (by omega)
          -- the window that is visited
          obtain ⟨Q, hQ⟩ : ∃ Q : Nat, q = (Q : Int) := ⟨q.toNat, by omega⟩
          obtain ⟨v, hv⟩ : ∃ v : Nat, v = Q % ks.length := ⟨_, rfl⟩
          have hvl : v < ks.length := by rw [hv]; exact Nat.mod_lt _ (by omega)
          have hvt : Int.tmod q (ks.length : Int) = (v : Int) := by rw [hQ, hv, Int.tmod_eq_emod_of_nonneg (by omega)]; rfl
          have hkn : ¬ ((ks.length : Int) = 0) := by omega
          have hkn2 : ¬ (ks = []) := fun h => by rw [h] at n1; simp at n1
          have hwv : IntKind.i64.wrap (v : Int) = (v : Int) := IntWalk.i64_in _ (by omega)
          have hwq : IntKind.i64.wrap q = q := IntWalk.i64_in _ (by omega)
          have hcase := turn_by (b := B) V.out HTS.out hvl
          have hsum := turn_sum (s := t) (b := B) HTL.out hvl
          have HCASE := Lib.hid hcase
          have HSUM := Lib.hid hsum
          have HBP := Lib.hid hBp
          have HSH := Lib.hid hsh
          have hmin : min ks.length 64 = ks.length := by omega
          clear hE htc hpq hwt hAe hP hB hBp hQ hv hcase hsum
          go_upto_region 12 with (fail)
          obtain ⟨Y, hY⟩ : ∃ Y, Y = wr := ⟨_, rfl⟩
          subst hY
          refine wp_region_rove (Y.heap.size) (Nat.le_refl _)
            [sqV (.slice (some ⟨tb, to, none⟩) l.length tcap),
             sqV (.int .i64 m),
             sqV (.pointer (some ⟨tb, to + m * 2, none⟩)),
             sqV (.pointer (some ⟨tb, to + m * 2, none⟩)),
             sqV (.int .u8 p),
             sqV (.int .i64 p),
             sqV (.pointer (some ⟨w.heap.size, 0, none⟩)),
             sqV (.slice sa ks.length cap),
             sqV (.int .i64 ks.length),
             sqV (.int .i64 A),
             sqV (.int .i64 B),
             sqW (fun v W => IsInts W .i64 v (bitsL ks.length B)) (fun _ _ _ h e => IsInts.ext e h),
             sqW (fun v W => IsInts W .i64 v (bitsL ks.length B)) (fun _ _ _ h e => IsInts.ext e h)]
            [true, true, true, true, true, true, true, true, true, true, true, false, false] [false, false, false, false, false, false, false, false, false, false, false, false, false] [true, true, true, true, true, true, true, true, true, true, true, true, true] [true, true, true, true, true, true, true, true, true, true, true, true, true]
            (by kernel_rfl) (by kernel_rfl) (by decide +kernel) (by decide +kernel) (by decide +kernel) rfl ⟨rfl, rfl⟩ ⟨?s0, ?s1, ?s2, ?s3, ?s4, ?s5, ?s6, ?s7, ?s8, ?s9, ?s10, ?s11, ?s12, trivial⟩ [some 54, some 55, some 56, some 57, some 58, some 59, some 60, some 61, some 62, some 63, some 64, some 65, some 11] rfl rfl ?send
          case s0 =>
            intro val ρ W hE hz hd hA hx
            have o0 : ρ (.tmp 2) = .slice (some ⟨tb, to, none⟩) l.length tcap := hA.old 2 (by decide)
            clear hd
            exact runq_val (W' := W) (by simp [execOp, o0, go_sem]) (Below.refl _ _) rfl
          case s1 =>
            intro val ρ W hE hz hd hA hx
            have o0 : ρ (.tmp 10) = .int .i64 m := hA.old 10 (by decide)
            clear hd
            exact runq_val (W' := W) (by simp [execOp, o0, go_sem]) (Below.refl _ _) rfl
          case s2 =>
            intro val ρ W hE hz hd hA hx
            have d0 : ρ (.tmp 54) = .slice (some ⟨tb, to, none⟩) l.length tcap := (hA.dep 0 (by decide) 54 rfl).trans (hd 0 (by decide))
            have d1 : ρ (.tmp 55) = .int .i64 m := (hA.dep 1 (by decide) 55 rfl).trans (hd 1 (by decide))
            clear hd
            exact runq_val (W' := W) (by simp [execOp, d0, d1, hmi, go_sem]) (Below.refl _ _) rfl
          case s3 =>
            intro val ρ W hE hz hd hA hx
            have d2 : ρ (.tmp 56) = .pointer (some ⟨tb, to + m * 2, none⟩) := (hA.dep 2 (by decide) 56 rfl).trans (hd 2 (by decide))
            clear hd
            exact runq_val (W' := W) (by simp [execOp, hA.const, d2, go_sem]) (Below.refl _ _) rfl
          case s4 =>
            intro val ρ W hE hz hd hA hx
            have d3 : ρ (.tmp 57) = .pointer (some ⟨tb, to + m * 2, none⟩) := (hA.dep 3 (by decide) 57 rfl).trans (hd 3 (by decide))
            have f_d0 := cell_below hE (by simp only; omega) d0
            clear hd
            exact runq_val (W' := W) (by simp [execOp, d3, f_d0, go_sem]) (Below.refl _ _) rfl
          case s5 =>
            intro val ρ W hE hz hd hA hx
            have d4 : ρ (.tmp 58) = .int .u8 p := (hA.dep 4 (by decide) 58 rfl).trans (hd 4 (by decide))
            clear hd
            exact runq_val (W' := W) (by simp [execOp, d4, hwp, go_sem]) (Below.refl _ _) rfl
          case s6 =>
            intro val ρ W hE hz hd hA hx
            have o0 : ρ (.tmp 3) = .pointer (some ⟨w.heap.size, 0, none⟩) := hA.old 3 (by decide)
            clear hd
            exact runq_val (W' := W) (by simp [execOp, o0, go_sem]) (Below.refl _ _) rfl
          case s7 =>
            intro val ρ W hE hz hd hA hx
            have d6 : ρ (.tmp 60) = .pointer (some ⟨w.heap.size, 0, none⟩) := (hA.dep 6 (by decide) 60 rfl).trans (hd 6 (by decide))
            have f_k1 := cell_below hE (by simp only; omega) k1
            clear hd
            exact runq_val (W' := W) (by simp [execOp, d6, f_k1, go_sem]) (Below.refl _ _) rfl
          case s8 =>
            intro val ρ W hE hz hd hA hx
            have d7 : ρ (.tmp 61) = .slice sa ks.length cap := (hA.dep 7 (by decide) 61 rfl).trans (hd 7 (by decide))
            clear hd
            exact runq_val (W' := W) (by simp [execOp, d7, go_sem]) (Below.refl _ _) rfl
          case s9 =>
            intro val ρ W hE hz hd hA hx
            have d8 : ρ (.tmp 62) = .int .i64 ks.length := (hA.dep 8 (by decide) 62 rfl).trans (hd 8 (by decide))
            clear hd
            exact runq_val (W' := W) (by simp [execOp, hA.const, d8, hsh, hmin, go_sem]) (Below.refl _ _) rfl
          case s10 =>
            intro val ρ W hE hz hd hA hx
            have d5 : ρ (.tmp 59) = .int .i64 p := (hA.dep 5 (by decide) 59 rfl).trans (hd 5 (by decide))
            have d9 : ρ (.tmp 63) = .int .i64 A := (hA.dep 9 (by decide) 63 rfl).trans (hd 9 (by decide))
            clear hd
            exact runq_val (W' := W) (by simp [execOp, d5, d9, hBt, hwB, hAn, hAn2, go_sem]) (Below.refl _ _) rfl
          case s11 =>
            intro val ρ W hE hz hd hA hx
            have d10 : ρ (.tmp 64) = .int .i64 B := (hA.dep 10 (by decide) 64 rfl).trans (hd 10 (by decide))
            clear hd
            refine runq_call 48 _ _ rfl #[.int .i64 B] (hA.func _) (by simp [d10]) (fun args W => Try.call48 args W) ((bitsR5_any ks.length B (by omega) HBP.out W).mono ?_)
            rintro e w' ⟨v, rfl, hb, hi⟩
            exact ⟨_, rfl, hb, hi⟩
          case s12 =>
            intro val ρ W hE hz hd hA hx
            have qx : IsInts W .i64 (val 11) (bitsL ks.length B) := hd 11 (by decide)
            have dx : ρ (.tmp 65) = val 11 := hA.dep 11 (by decide) 65 rfl
            exact runq_val (W' := W) (v := val 11) (by simp [execOp, dx, go_sem]) (Below.refl _ _) qx
          case send =>
            intro val WW hE hzz hv
            obtain ⟨-, -, -, -, -, -, -, -, -, -, -, -, q12, -⟩ := hv
            replace q12 : IsInts WW .i64 (val 12) (bitsL ks.length B) := q12
            obtain ⟨X8, hX8⟩ : ∃ X8, X8 = val 12 := ⟨_, rfl⟩
            rw [← hX8] at q12
            simp only [putD, ← hX8]
            go_frame
            have hEW : Ext Y WW := hE
            have k2 := cell_ext hEW k1
            have hz2 := World.block_lt_of_cell? _ _ k2
            have e1 := cell_ext hEW d1
            have hez := World.block_lt_of_cell? _ _ e1
            simp only at hz2 hez
            have HSW := Lib.hid (HSr.out.ext hEW)
            have HTW := Lib.hid (HTI.out.ext hEW)
            have HEW := Lib.hid (HE.out.trans' hEW)
            clear hX8 hE hzz hEW
            obtain ⟨pa, pc, rfl, -, -, -⟩ := q12.spec
            have HPS := Lib.hid q12
            clear q12
            obtain ⟨TE, hTE⟩ : ∃ TE, TE = turnErr ks t (bitsL ks.length B) (v : Int) := ⟨_, rfl⟩
            obtain ⟨TL, hTL⟩ : ∃ TL, TL = turnL ks t (bitsL ks.length B) (v : Int) := ⟨_, rfl⟩
            obtain ⟨TN, hTN⟩ : ∃ TN, TN = turnN ks t (bitsL ks.length B) (v : Int) := ⟨_, rfl⟩
            rw [← hTE, ← hTL, ← hTN] at HCASE
            have ct := fun W h1 h2 h3 => turn_any ks t (bitsL ks.length B) (v : Int) (.slice sa ks.length cap) (.slice ya t.length yc) (.slice pa (bitsL ks.length B).length pc) W h1 h2 h3
            unfold RetTurn at ct
            rw [← hTE, ← hTL, ← hTN] at ct
            have hpb := bitsL_len ks.length B
            have cp := fun W h1 h2 h3 => pulledR_any ks t (bitsL ks.length B) (.slice sa ks.length cap) (.slice ya t.length yc) (.slice pa (bitsL ks.length B).length pc) W h1 h2 h3 n1 n5 HTL.out (st_bd V.out HTS.out) (bits_sorted _ _) (fun x hx => ⟨(bits_mem.1 hx).1, (bits_mem.1 hx).2.1⟩) (by omega)
            obtain ⟨BL, hBL⟩ : ∃ BL, BL = bitsL ks.length B := ⟨_, rfl⟩
            obtain ⟨fp, hfp⟩ : ∃ fp, fp = fullP (fun i => BL.contains (i : Int)) ks t := ⟨_, rfl⟩
            obtain ⟨UP, hUP⟩ : ∃ UP, UP = upP (fun i => BL.contains (i : Int)) t := ⟨_, rfl⟩
            rw [← hBL] at HPS ct cp HCASE HSUM hpb ⊢
            have hul : UP.length = ks.length := by rw [hUP, upP_len, HTL.out]
            have hvs : fp = false → isSt ks (visit UP v) = true := fun h => by rw [hUP]; exact visit_ups V.out HTS.out (hfp.symm.trans h) v
            have hub := fun i hi => upP_at (fun i => BL.contains (i : Int)) t i hi
            unfold RetPullR at cp
            rw [← hfp, ← hUP] at cp HCASE
            rw [← hUP] at HSUM
            rw [← hUP] at hub
            have CT := Lib.hid ct
            have CP := Lib.hid cp
            have HUL := Lib.hid hul
            have HVS := Lib.hid hvs
            have HUB := Lib.hid hub
            clear hTE hTL hTN ct cp hBL hfp hUP hul hvs hub d0 d1 k1
            go_upto_region 13 with (fail)
            obtain ⟨Z, hZ⟩ : ∃ Z, Z = WW := ⟨_, rfl⟩
            subst hZ
            refine wp_region_rove (Z.heap.size) (Nat.le_refl _)
              [sqV (.agg #[.slice sa ks.length cap]),
               sqV (.slice ya t.length yc),
               sqV (.slice pa BL.length pc),
               sqV (.slice (some ⟨tb, to, none⟩) l.length tcap),
               sqV (.int .i64 m),
               sqV (.pointer (some ⟨tb, to + m * 2, none⟩)),
               sqV (.pointer (some ⟨tb, to + m * 2 + 1, none⟩)),
               sqV (.int .u8 q),
               sqV (.int .i64 q),
               sqV (.pointer (some ⟨w.heap.size, 0, none⟩)),
               sqV (.slice sa ks.length cap),
               sqV (.int .i64 ks.length),
               sqV (.int .i64 v),
               sqW (fun v W => ∃ r, v = .tuple #[r, .int .i64 TN, .int .i64 TE] ∧ IsInts W .i64 r TL) (fun _ _ _ ⟨r, h1, h2⟩ e => ⟨r, h1, IsInts.ext e h2⟩),
               sqW (fun v W => ∃ r, v = .tuple #[r, .int .i64 TN, .int .i64 TE] ∧ IsInts W .i64 r TL) (fun _ _ _ ⟨r, h1, h2⟩ e => ⟨r, h1, IsInts.ext e h2⟩),
               sqW (fun v W => IsInts W .i64 v TL) (fun _ _ _ h e => IsInts.ext e h),
               sqV (.int .i64 TN),
               sqV (.int .i64 TE),
               sqW (fun v W => IsInts W .i64 v TL) (fun _ _ _ h e => IsInts.ext e h),
               sqV (.int .i64 TN),
               sqV (.int .i64 TE)]
              [true, true, true, true, true, true, true, true, true, true, true, true, true, false, false, false, true, true, false, true, true] [false, false, false, false, false, false, false, false, false, false, false, false, false, false, false, false, false, false, false, false, false] [true, true, true, true, true, true, true, true, true, true, true, true, true, true, true, true, true, true, true, true, true] [true, true, true, true, true, true, true, true, true, true, true, true, true, true, true, true, true, true, true, true, true]
              (by kernel_rfl) (by kernel_rfl) (by decide +kernel) (by decide +kernel) (by decide +kernel) rfl ⟨rfl, rfl⟩ ⟨?s0, ?s1, ?s2, ?s3, ?s4, ?s5, ?s6, ?s7, ?s8, ?s9, ?s10, ?s11, ?s12, ?s13, ?s14, ?s15, ?s16, ?s17, ?s18, ?s19, ?s20, trivial⟩ [some 67, some 68, some 69, some 70, some 71, some 72, some 73, some 74, some 75, some 76, some 77, some 78, some 79, some 80, some 66, some 81, some 82, some 83, some 12, some 13, some 14] rfl rfl ?send
            case s0 =>
              intro val ρ W hE hz hd hA hx
              have o0 : ρ (.tmp 3) = .pointer (some ⟨w.heap.size, 0, none⟩) := hA.old 3 (by decide)
              have f_k2 := cell_below hE (by simp only; omega) k2
              clear hd
              exact runq_val (W' := W) (by simp [execOp, o0, f_k2, go_sem]) (Below.refl _ _) rfl
            case s1 =>
              intro val ρ W hE hz hd hA hx
              have o0 : ρ (.tmp 7) = .slice ya t.length yc := hA.old 7 (by decide)
              clear hd
              exact runq_val (W' := W) (by simp [execOp, o0, go_sem]) (Below.refl _ _) rfl
            case s2 =>
              intro val ρ W hE hz hd hA hx
              have o0 : ρ (.tmp 11) = .slice pa BL.length pc := hA.old 11 (by decide)
              clear hd
              exact runq_val (W' := W) (by simp [execOp, o0, go_sem]) (Below.refl _ _) rfl
            case s3 =>
              intro val ρ W hE hz hd hA hx
              have o0 : ρ (.tmp 2) = .slice (some ⟨tb, to, none⟩) l.length tcap := hA.old 2 (by decide)
              clear hd
              exact runq_val (W' := W) (by simp [execOp, o0, go_sem]) (Below.refl _ _) rfl
            case s4 =>
              intro val ρ W hE hz hd hA hx
              have o0 : ρ (.tmp 10) = .int .i64 m := hA.old 10 (by decide)
              clear hd
              exact runq_val (W' := W) (by simp [execOp, o0, go_sem]) (Below.refl _ _) rfl
            case s5 =>
              intro val ρ W hE hz hd hA hx
              have d3 : ρ (.tmp 70) = .slice (some ⟨tb, to, none⟩) l.length tcap := (hA.dep 3 (by decide) 70 rfl).trans (hd 3 (by decide))
              have d4 : ρ (.tmp 71) = .int .i64 m := (hA.dep 4 (by decide) 71 rfl).trans (hd 4 (by decide))
              clear hd
              exact runq_val (W' := W) (by simp [execOp, d3, d4, hmi, go_sem]) (Below.refl _ _) rfl
            case s6 =>
              intro val ρ W hE hz hd hA hx
              have d5 : ρ (.tmp 72) = .pointer (some ⟨tb, to + m * 2, none⟩) := (hA.dep 5 (by decide) 72 rfl).trans (hd 5 (by decide))
              clear hd
              exact runq_val (W' := W) (by simp [execOp, hA.const, d5, go_sem]) (Below.refl _ _) rfl
            case s7 =>
              intro val ρ W hE hz hd hA hx
              have d6 : ρ (.tmp 73) = .pointer (some ⟨tb, to + m * 2 + 1, none⟩) := (hA.dep 6 (by decide) 73 rfl).trans (hd 6 (by decide))
              have f_e1 := cell_below hE (by simp only; omega) e1
              clear hd
              exact runq_val (W' := W) (by simp [execOp, d6, f_e1, go_sem]) (Below.refl _ _) rfl
            case s8 =>
              intro val ρ W hE hz hd hA hx
              have d7 : ρ (.tmp 74) = .int .u8 q := (hA.dep 7 (by decide) 74 rfl).trans (hd 7 (by decide))
              clear hd
              exact runq_val (W' := W) (by simp [execOp, d7, hwq, go_sem]) (Below.refl _ _) rfl
            case s9 =>
              intro val ρ W hE hz hd hA hx
              have o0 : ρ (.tmp 3) = .pointer (some ⟨w.heap.size, 0, none⟩) := hA.old 3 (by decide)
              clear hd
              exact runq_val (W' := W) (by simp [execOp, o0, go_sem]) (Below.refl _ _) rfl
            case s10 =>
              intro val ρ W hE hz hd hA hx
              have d9 : ρ (.tmp 76) = .pointer (some ⟨w.heap.size, 0, none⟩) := (hA.dep 9 (by decide) 76 rfl).trans (hd 9 (by decide))
              have f_k2 := cell_below hE (by simp only; omega) k2
              clear hd
              exact runq_val (W' := W) (by simp [execOp, d9, f_k2, go_sem]) (Below.refl _ _) rfl
            case s11 =>
              intro val ρ W hE hz hd hA hx
              have d10 : ρ (.tmp 77) = .slice sa ks.length cap := (hA.dep 10 (by decide) 77 rfl).trans (hd 10 (by decide))
              clear hd
              exact runq_val (W' := W) (by simp [execOp, d10, go_sem]) (Below.refl _ _) rfl
            case s12 =>
              intro val ρ W hE hz hd hA hx
              have d8 : ρ (.tmp 75) = .int .i64 q := (hA.dep 8 (by decide) 75 rfl).trans (hd 8 (by decide))
              have d11 : ρ (.tmp 78) = .int .i64 ks.length := (hA.dep 11 (by decide) 78 rfl).trans (hd 11 (by decide))
              clear hd
              exact runq_val (W' := W) (by simp [execOp, d8, d11, hvt, hwv, hkn, hkn2, go_sem]) (Below.refl _ _) rfl
            case s19 =>
              intro val ρ W hE hz hd hA hx
              have d16 : ρ (.tmp 82) = .int .i64 TN := (hA.dep 16 (by decide) 82 rfl).trans (hd 16 (by decide))
              clear hd
              exact runq_val (W' := W) (by simp [execOp, d16, go_sem]) (Below.refl _ _) rfl
            case s20 =>
              intro val ρ W hE hz hd hA hx
              have d17 : ρ (.tmp 83) = .int .i64 TE := (hA.dep 17 (by decide) 83 rfl).trans (hd 17 (by decide))
              clear hd
              exact runq_val (W' := W) (by simp [execOp, d17, go_sem]) (Below.refl _ _) rfl
            case s13 =>
              intro val ρ W hE hz hd hA hx
              have d0 : ρ (.tmp 67) = .agg #[.slice sa ks.length cap] := (hA.dep 0 (by decide) 67 rfl).trans (hd 0 (by decide))
              have d1 : ρ (.tmp 68) = .slice ya t.length yc := (hA.dep 1 (by decide) 68 rfl).trans (hd 1 (by decide))
              have d2 : ρ (.tmp 69) = .slice pa BL.length pc := (hA.dep 2 (by decide) 69 rfl).trans (hd 2 (by decide))
              have d12 : ρ (.tmp 79) = .int .i64 v := (hA.dep 12 (by decide) 79 rfl).trans (hd 12 (by decide))
              clear hd
              refine runq_call 20 _ _ rfl #[.agg #[.slice sa ks.length cap], .slice ya t.length yc, .slice pa BL.length pc, .int .i64 v] (hA.func _) (by simp [d0, d1, d2, d12]) (fun args W => Try.call20 args W) ((CT.out W (HSW.out.ext hE) (HTW.out.ext hE) (HPS.out.ext hE)).mono ?_)
              rintro e w' ⟨r, rfl, hb, hi⟩
              exact ⟨_, rfl, hb, r, rfl, hi⟩
            case s14 =>
              intro val ρ W hE hz hd hA hx
              obtain ⟨r, h1, h2⟩ : ∃ r, val 13 = .tuple #[r, .int .i64 TN, .int .i64 TE] ∧ IsInts W .i64 r TL := hd 13 (by decide)
              have dd : ρ (.tmp 80) = .tuple #[r, .int .i64 TN, .int .i64 TE] := (hA.dep 13 (by decide) 80 rfl).trans h1
              exact runq_val (W' := W) (v := .tuple #[r, .int .i64 TN, .int .i64 TE]) (by simp [execOp, dd, go_sem]) (Below.refl _ _) ⟨r, rfl, h2⟩
            case s15 =>
              intro val ρ W hE hz hd hA hx
              obtain ⟨r, h1, h2⟩ : ∃ r, val 14 = .tuple #[r, .int .i64 TN, .int .i64 TE] ∧ IsInts W .i64 r TL := hd 14 (by decide)
              have dd : ρ (.tmp 66) = .tuple #[r, .int .i64 TN, .int .i64 TE] := (hA.dep 14 (by decide) 66 rfl).trans h1
              exact runq_val (W' := W) (v := r) (by simp [execOp, dd, go_sem]) (Below.refl _ _) h2
            case s16 =>
              intro val ρ W hE hz hd hA hx
              obtain ⟨r, h1, h2⟩ : ∃ r, val 14 = .tuple #[r, .int .i64 TN, .int .i64 TE] ∧ IsInts W .i64 r TL := hd 14 (by decide)
              have dd : ρ (.tmp 66) = .tuple #[r, .int .i64 TN, .int .i64 TE] := (hA.dep 14 (by decide) 66 rfl).trans h1
              exact runq_val (W' := W) (v := .int .i64 TN) (by simp [execOp, dd, go_sem]) (Below.refl _ _) rfl
            case s17 =>
              intro val ρ W hE hz hd hA hx
              obtain ⟨r, h1, h2⟩ : ∃ r, val 14 = .tuple #[r, .int .i64 TN, .int .i64 TE] ∧ IsInts W .i64 r TL := hd 14 (by decide)
              have dd : ρ (.tmp 66) = .tuple #[r, .int .i64 TN, .int .i64 TE] := (hA.dep 14 (by decide) 66 rfl).trans h1
              exact runq_val (W' := W) (v := .int .i64 TE) (by simp [execOp, dd, go_sem]) (Below.refl _ _) rfl
            case s18 =>
              intro val ρ W hE hz hd hA hx
              have qx : IsInts W .i64 (val 15) TL := hd 15 (by decide)
              have dx : ρ (.tmp 81) = val 15 := hA.dep 15 (by decide) 81 rfl
              exact runq_val (W' := W) (v := val 15) (by simp [execOp, dx, go_sem]) (Below.refl _ _) qx
            case send =>
              intro val WW hE hzz hv
              obtain ⟨-, -, -, -, -, -, -, -, -, -, -, -, -, -, -, -, -, -, q18, q19, q20, -⟩ := hv
              replace q18 : IsInts WW .i64 (val 18) TL := q18
              have q19' : val 19 = .int .i64 TN := q19
              have q20' : val 20 = .int .i64 TE := q20
              obtain ⟨X9, hX9⟩ : ∃ X9, X9 = val 18 := ⟨_, rfl⟩
              rw [← hX9] at q18
              simp only [putD, ← hX9, q19', q20']
              go_frame
              have hEZ : Ext Z WW := hE
              have k3 := cell_ext hEZ k2
              have hz3 := World.block_lt_of_cell? _ _ k3
              have e2 := cell_ext hEZ e1
              have hez2 := World.block_lt_of_cell? _ _ e2
              simp only at hz3 hez2
              have HSX := Lib.hid (HSW.out.ext hEZ)
              have HTX := Lib.hid (HTW.out.ext hEZ)
              have HPX := Lib.hid (HPS.out.ext hEZ)
              have HEX := Lib.hid (HEW.out.trans' hEZ)
              clear hX9 hE hzz hEZ q19 q19' q20 q20' k2 e1
              obtain ⟨za, zc, rfl, -, -, -⟩ := q18.spec
              have HZ := Lib.hid q18
              clear q18
              go_wp2_with fail
              refine (CP.out _ (HSX.out.ext (by exact (by repeat (first | exact Below.refl _ _ | refine Ext.al ?_ _ | refine Ext.dr ?_ | refine Ext.drN ?_ _ | refine Ext.gr ?_ _ | refine Ext.set ?_ (by simp) _ | (refine Ext.trans' ?_ (by assumption)))))) (HTX.out.ext (by exact (by repeat (first | exact Below.refl _ _ | refine Ext.al ?_ _ | refine Ext.dr ?_ | refine Ext.drN ?_ _ | refine Ext.gr ?_ _ | refine Ext.set ?_ (by simp) _ | (refine Ext.trans' ?_ (by assumption)))))) (HPX.out.ext (by exact (by repeat (first | exact Below.refl _ _ | refine Ext.al ?_ _ | refine Ext.dr ?_ | refine Ext.drN ?_ _ | refine Ext.gr ?_ _ | refine Ext.set ?_ (by simp) _ | (refine Ext.trans' ?_ (by assumption))))))).mono ?_
              rintro e W5 ⟨r5, rfl, hE5, hI5⟩
              have k4 := cell_ext hE5 k3
              have hz4 := World.block_lt_of_cell? _ _ k4
              have e3 := cell_ext hE5 e2
              have hez3 := World.block_lt_of_cell? _ _ e3
              simp only at hz4 hez3
              obtain ⟨ra, rc, rfl, -, -, -⟩ := hI5.spec
              have HI5 := Lib.hid hI5
              have HE5 := Lib.hid (HEX.out.trans' hE5)
              have HZ5 := Lib.hid (HZ.out.ext hE5)
              have HT5 := Lib.hid (HTX.out.ext hE5)
              clear hE5 hI5 k3 e2
              cases fp
              rotate_left
              · have hc : TE = 17 ∧ TL = [] ∧ TN = 0 := by
                  rcases HCASE.out with ⟨-, a, b, c⟩ | ⟨h, -⟩
                  · exact ⟨a, b, c⟩
                  · cases h
                obtain ⟨rfl, rfl, rfl⟩ := hc
                go_wp2_with fail
                go_roundw
                case rel => exact ⟨m + 1, t, by omega, by go_num, HTS.out, HT5.out, by rw [← HSG.out], HE5.out⟩
                case measure => simp [intOf]; omega
              · have hc : TE = 0 ∧ TL = visit UP v ∧ TN = gt UP v := by
                  rcases HCASE.out with ⟨h, -⟩ | ⟨-, a, b, c⟩
                  · cases h
                  · exact ⟨a, b, c⟩
                obtain ⟨rfl, hTLe, hTNe⟩ := hc
                have hI5 := HI5.out
                simp only [Bool.false_eq_true, if_false] at hI5 ⊢
                have hvu : v < UP.length := by rw [HUL.out]; exact hvl
                obtain ⟨ub, uo, rfl, huz, huc⟩ := hI5.at_all (by omega)
                have c5 := huc W5 (Below.refl _ _) v hvu
                have hcz5 := World.block_lt_of_cell? _ _ c5
                simp only at hcz5
                have HUC := Lib.hid huc
                have hvui : (v : Int) < (UP.length : Int) := by omega
                rw [← hTNe] at c5
                have htn : 0 ≤ TN ∧ TN ≤ 13 := by
                  have hvt9 : v < t.length := by rw [HTL.out]; exact hvl
                  have h1 := HUB.out v hvt9
                  have h2 := st_le12 V.out HTS.out t[v] (List.getElem_mem hvt9)
                  rw [gt_get hvt9] at h2
                  rw [hTNe]
                  unfold gt at h2 ⊢
                  rw [h1]
                  split <;> omega
                have hu5 : UP.length ≤ 1000 := by have := HUL.out; omega
                have hsm : (visit UP v).sum = σ + ((BL.length : Int) - TN) := by
                  have h1 := HSUM.out
                  rw [← HSG.out] at h1
                  rw [h1, hTNe]
                  unfold gt
                  omega
                have HSM := Lib.hid hsm
                have HTLE := Lib.hid hTLe
                have HTNE := Lib.hid hTNe
                replace HI5 := Lib.hid hI5
                have hw9 : IntKind.i64.wrap ((BL.length : Int) - TN) = (BL.length : Int) - TN := IntWalk.i64_in _ (by omega)
                have htnn : (TN != TN) = false := by simp
                clear hI5 huc hTLe hTNe hsm
                go_upto_region 18 with (fail)
                go_quiet (fail)
                go_wp2_with fail
                refine (visitedR_any UP v _ _ (HI5.out.ext (by exact (by repeat (first | exact Below.refl _ _ | refine Ext.al ?_ _ | refine Ext.dr ?_ | refine Ext.drN ?_ _ | refine Ext.gr ?_ _ | refine Ext.set ?_ (by simp) _ | (refine Ext.trans' ?_ (by assumption)))))) hvu hu5).mono ?_
                rintro e W7 ⟨r7, rfl, hE7, hI7⟩
                obtain ⟨qa, qc, rfl, -, -, -⟩ := hI7.spec
                have hE75 : Ext W5 W7 := Ext.trans' (by exact (by repeat (first | exact Below.refl _ _ | refine Ext.al ?_ _ | refine Ext.dr ?_ | refine Ext.drN ?_ _ | refine Ext.gr ?_ _ | refine Ext.set ?_ (by simp) _ | (refine Ext.trans' ?_ (by assumption))))) hE7
                have HI7 := Lib.hid hI7
                have HZ7 := Lib.hid (HZ5.out.ext hE75)
                have HE7 := Lib.hid (HE5.out.trans' hE75)
                clear hE7 hE75 hI7
                go_wp2_with fail
                refine (intsL_any TL (visit UP v) _ _ _ (HZ7.out.ext (by exact (by repeat (first | exact Below.refl _ _ | refine Ext.al ?_ _ | refine Ext.dr ?_ | refine Ext.drN ?_ _ | refine Ext.gr ?_ _ | refine Ext.set ?_ (by simp) _ | (refine Ext.trans' ?_ (by assumption)))))) (HI7.out.ext (by exact (by repeat (first | exact Below.refl _ _ | refine Ext.al ?_ _ | refine Ext.dr ?_ | refine Ext.drN ?_ _ | refine Ext.gr ?_ _ | refine Ext.set ?_ (by simp) _ | (refine Ext.trans' ?_ (by assumption))))))).mono ?_
                rintro e W8 ⟨rfl, hE8⟩
                rw [decide_eq_true HTLE.out]
                have HZ8 := Lib.hid (HZ7.out.ext hE8)
                have HE8 := Lib.hid (HE7.out.trans' hE8)
                clear hE8
                go_wp2_with fail
                go_roundw
                case rel => exact ⟨m + 1, visit UP v, by omega, by go_num, HVS.out (by first | exact rfl | trivial), by rw [← HTLE.out]; exact HZ8.out, by rw [HSM.out], HE8.out⟩
                case measure => simp [intOf]; omega
        · have hmi : ¬ ((m : Int) < (l.length : Int)) := by omega
          obtain ⟨yb, yo, rfl, hyz, hyc⟩ := HTI.out.at_all ht0
          have HYC := Lib.hid (hyc wr (Below.refl _ _))
          have HR := Lib.hid (HW.out.trans' hE)
          clear hyc hE
          go_wp2_with fail
          go_loop [8, 18] (fun sv iv => ∃ k : Nat, k ≤ t.length ∧ iv = .int .i64 k ∧ sv = .int .i64 (σ - (t.take k).sum)) (fun _ iv => t.length - (intOf iv).toNat)
          case atStart => exact ⟨0, by omega, rfl, by simp⟩
          case round =>
            obtain ⟨j, hj, rfl, rfl⟩ := hrel
            by_cases hjl : j < t.length
            · have hji : (j : Int) < (t.length : Int) := by omega
              have c0 := HYC.out j hjl
              have h12 := st_le12 V.out HTS.out t[j] (List.getElem_mem hjl)
              rw [gt_get hjl] at h12
              have hbd := st_sum V.out HTS.out j
              have htk := take_sum hjl
              obtain ⟨x, hx⟩ : ∃ x, x = gt t j := ⟨_, rfl⟩
              have htk2 : (t.take (j + 1)).sum = (t.take j).sum + x := by rw [hx]; exact htk
              rw [← hx] at c0 h12
              obtain ⟨τ, hτ⟩ : ∃ τ, τ = (t.take j).sum := ⟨_, rfl⟩
              rw [← hτ] at hbd htk2 ⊢
              have htk3 : σ - (t.take (j + 1)).sum = σ - τ - x := by omega
              have HTK := Lib.hid htk3
              clear htk htk2 htk3 hx hτ
              go_wp2_with fail
              go_round
              case rel => exact ⟨j + 1, by omega, by go_num, by rw [HTK.out]⟩
              case measure => simp [intOf]; omega
            · have hji : ¬ ((j : Int) < (t.length : Int)) := by omega
              have hall : σ - (t.take j).sum = 0 := by rw [List.take_of_length_le (by omega), ← HSG.out]; omega
              rw [hall]
              clear hall
              go_wp2_with fail
              refine (works_any _).mono ?_
              rintro e W5 ⟨rfl, hE5⟩
              have HE5 := Lib.hid (HR.out.trans' hE5)
              clear hE5
              go_wp2_with fail
              go_ret
              exact ⟨rfl, HE5.out⟩
end Go.Proofs.Ytndgaklcnhoddaa
namespace Go.Proofs.Ytndgaklcnhoddaa
open Go.RowKit
open Go.ChangeShapes Go.WideShapes Go.ChangeAt in
set_option maxRecDepth 100000 in
theorem turnCounted_lifted (os : Os) (started : os.Started) (H : Type) (enc : TypeId × Value → H) :
    ReturnsInHanded {} Try.checked os 10 .any (Rows.turnCountedSpec.pre6 enc Try.prog Try.f10 Rows.turnCountedRow.domain false) (Rows.turnCountedSpec.post enc Try.prog Try.f10 false true false false) := by
  refine returnsInHanded_of_change (C := Try.checked) own started (by kernel_rfl) Try.func10
    (ChangeSpec.witness6 (enc := enc) (C := Try.checked) false ⟨#[], #[.agg #[.slice none 0 0], .slice none 0 0, .slice none 0 0], []⟩ 8 (by kernel_rfl) (by kernel_rfl) (by kernel_rfl) (by kernel_rfl)) ?_
  intro W base args ds gs before hval0 hW hcnd _
  have hval : ∀ (j : Nat) t v, Try.f10.params[j]? = some t → args[j]? = some v → Value.okWide Try.prog W .any base t v := hval0
  have hW' := hW
  obtain ⟨p, q, hA0, hV, rfl, hfz, hnd⟩ := hW
  have hA : DataW.TrodAll enc Try.prog W 0 (fun _ => true) true Try.f10.params.toList args.toList ds p := hA0
  rw [Try.params10] at hA hval
  obtain ⟨v0, vs0, d0, ds0, p0, q0, hargs, rfl, rfl, h0, r0⟩ := trodAll_cons hA
  obtain ⟨v1, vs1, d1, ds1, p1, q1, rfl, rfl, rfl, h1, r1⟩ := trodAll_cons r0
  obtain ⟨v2, vs2, d2, ds2, p2, q2, rfl, rfl, rfl, h2, r2⟩ := trodAll_cons r1
  obtain ⟨rfl, rfl, rfl⟩ := trodAll_nil r2
  obtain rfl : args = #[v0, v1, v2] := by cases args; simp_all
  obtain ⟨ks, sks, rfl, hks⟩ := openHall (hval 0 24 v0 rfl rfl) h0
  obtain ⟨bs, hbs, wbs⟩ := openNumsK (k := .u8) Try.underlying52 Try.underlying5 (by kernel_rfl) (hval 1 52 v1 rfl rfl) h1
  obtain ⟨l, hl, wl⟩ := openPairs8 (hval 2 55 v2 rfl rfl) h2
  clear hA0 hval0
  refine (turnCounted_any ks sks v1 bs v2 l W hks hbs wbs hl wl).mono fun e W' ⟨he, hb⟩ => ?_
  subst he
  exact ⟨_, rfl, law_post laidOut (tb := 4) (hts_of (by kernel_rfl)) (by kernel_rfl) Try.underlying4 hW' rfl rfl hb⟩
theorem turnCounted_holds : Rows.TurnCountedSaid :=
  OpenClaim.holds_of_wide 10 Try.f10 rfl rfl rfl rfl rfl rfl rfl ⟨rfl, rfl, rfl, rfl, rfl⟩ rfl rfl rfl rfl rfl (by kernel_rfl) Try.func10 (by kernel_rfl)
    (of_decide_eq_true (by kernel_rfl)) (by unfold Func.isWrapper; first | (rw [if_pos (by decide +kernel)]; kernel_rfl) | (rw [if_neg (by decide +kernel)]; exact ⟨rfl, rfl⟩))
    (fun os started H enc _ => turnCounted_lifted os started H enc)
end Go.Proofs.Ytndgaklcnhoddaa
