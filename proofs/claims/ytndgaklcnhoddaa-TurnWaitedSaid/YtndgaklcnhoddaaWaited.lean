/-
  The statement TurnWaited holds: if the windows of Wait wait, some visit leads to a safe state; if fewer given windows do, or as many that come before, none does; it is empty just if the state is safe; for every hall, state and windows that are handed in. No condition.
-/
import Derived.Test.YtndgaklcnhoddaaLawF
import Derived.Test.YtndgaklcnhoddaaLawL
namespace Go.Proofs.Ytndgaklcnhoddaa
open Go.RowKit Go.Shelf
/-- what bits are set by a list -/
def valL (l : List Int) : Nat := (l.map fun x => 2 ^ x.toNat).sum
theorem valL_app (l m : List Int) : valL (l ++ m) = valL l + valL m := by unfold valL; simp
theorem valL_bits : ∀ (n b : Nat), valL (bitsL n b) = b % 2 ^ n
  | 0, b => by simp [valL, bitsL, Nat.mod_one]
  | n + 1, b => by
    rw [bitsL_succ, valL_app, valL_bits n b, Nat.mod_pow_succ, Nat.testBit_eq_decide_div_mod_eq]
    rcases Nat.mod_two_eq_zero_or_one (b / 2 ^ n) with h | h <;> simp [h, valL]
theorem valL_take {l : List Int} {k : Nat} (h : k < l.length) : valL (l.take (k + 1)) = valL (l.take k) + 2 ^ (gt l k).toNat := by
  rw [List.take_succ_eq_append_getElem h, valL_app, gt_get h]; simp [valL]
theorem valL_le (l : List Int) (k : Nat) : valL (l.take k) ≤ valL l := by
  have e : l = l.take k ++ l.drop k := (List.take_append_drop k l).symm
  have h : valL l = valL (l.take k) + valL (l.drop k) := by rw [← valL_app, ← e]
  omega
theorem bitsL_nil (n : Nat) : bitsL n 0 = [] := by
  unfold bitsL; simp
theorem okW_nil {ks s : List Int} : okW ks s [] = true ↔ SafeP (nxS ks) s := by
  rw [← leads_all]
  have e : notIn [] = allW := by funext w; simp [notIn, allW]
  unfold okW
  rw [e]
  cases leadsL ks allW s <;> simp
theorem wait_cases {ks s : List Int} (v : TVal ks) (hs : isSt ks s = true) :
    (waitErr ks s = 17 ∧ waitLL ks s = [] ∧ doomRErr ks s = 0 ∧ ∀ b, b < 2 ^ ks.length → okW ks s (bitsL ks.length b) = false) ∨
    (waitErr ks s = 0 ∧ ∃ B, B < 2 ^ ks.length ∧ waitLL ks s = bitsL ks.length B ∧ okW ks s (bitsL ks.length B) = true ∧ (∀ b, b < 2 ^ ks.length → befL (bitsL ks.length b) (bitsL ks.length B) → okW ks s (bitsL ks.length b) = false) ∧
      (((bitsL ks.length B).length = 0 ∧ doomRErr ks s = 5) ∨ ((bitsL ks.length B).length ≠ 0 ∧ doomRErr ks s = 0))) := by
  have h0 : ¬ stErr ks s ≠ 0 := fun e => e (stErr_of v hs)
  have hp : 0 < 2 ^ ks.length := Nat.two_pow_pos _
  have hb := find_best ks.length (okW ks s)
  have hw : waitL ks s = (subsAll ks.length).find? (okW ks s) := rfl
  unfold waitErr waitLL
  rw [if_neg h0, if_neg h0, hw]
  cases hf : (subsAll ks.length).find? (okW ks s) with
  | none =>
    rw [hf] at hb
    refine .inl ⟨by simp, rfl, ?_, hb⟩
    rcases doomR_cases v hs with ⟨e, _⟩ | ⟨_, e, _⟩
    · exact e
    · have h1 := hb 0 hp
      rw [bitsL_nil, okW_nil.2 e] at h1
      cases h1
  | some l =>
    rw [hf] at hb
    obtain ⟨h1, ⟨B, hB, rfl⟩, h2⟩ := hb
    refine .inr ⟨by simp, B, hB, rfl, h1, fun b hbb hbe => ?_, ?_⟩
    · cases h : okW ks s (bitsL ks.length b)
      · rfl
      · exact absurd hbe (h2 b hbb h)
    · by_cases hl : (bitsL ks.length B).length = 0
      · refine .inl ⟨hl, ?_⟩
        rw [List.eq_nil_of_length_eq_zero hl] at h1
        rcases doomR_cases v hs with ⟨_, e, _⟩ | ⟨e, _⟩
        · exact absurd (okW_nil.1 h1) e
        · exact e
      · refine .inr ⟨hl, ?_⟩
        rcases doomR_cases v hs with ⟨e, _⟩ | ⟨_, e, _⟩
        · exact e
        · refine absurd ?_ (h2 0 hp (by rw [bitsL_nil]; exact okW_nil.2 e))
          rw [bitsL_nil]
          exact .inl (by simp; omega)
theorem bits_step {n B k : Nat} (hk : k < (bitsL n B).length) : ∃ X : Nat, gt (bitsL n B) k = (X : Int) ∧ X < n ∧ (∀ j, j < k → gt (bitsL n B) j < (X : Int)) := by
  have hm := bits_mem.1 (List.getElem_mem hk)
  rw [gt_get hk] at hm
  refine ⟨(gt (bitsL n B) k).toNat, by omega, by omega, fun j hj => ?_⟩
  have hs := bits_sorted n B
  have := List.pairwise_iff_getElem.1 hs j k (by omega) hk hj
  rw [gt_get hk, gt_get (by omega : j < (bitsL n B).length)] at this
  omega
set_option maxRecDepth 100000 in
set_option maxHeartbeats 8000000 in
theorem turnWaited_any (ks : List Int) (kv : Value) (bv : Value) (bs : List Int) (mm : Int) (w : World) (hv : IsInts w .i64 kv ks) (hb : IsInts w .u8 bv bs) (hw8 : ∀ x ∈ bs, (Lit.int .u8 x).wf = true) (hwm : (Lit.int .u8 mm).wf = true) :
    Calls Try.prog 15 #[.agg #[kv], bv, .int .u8 mm] w fun e W => e = .returned (.bool true) ∧ Ext w W := by
  obtain ⟨sa, cap, rfl, h1, h2, -⟩ := hv.spec
  obtain ⟨ba, bcap, rfl, h3, h4, -⟩ := hb.spec
  have HV := Lib.hid hv
  have HB0 := Lib.hid hb
  have H8 := Lib.hid (u8s hw8)
  have hmm : 0 ≤ mm ∧ mm ≤ 255 := by have := bounds_u8 hwm; omega
  clear hv hb hw8 hwm
  go_enter Try.func15, Try.ntmps15
  go_upto_region 1 with (fail)
  obtain ⟨W0, hW0⟩ : ∃ W0, W0 = w.alloc (.cells #[.slice sa ks.length cap] 24) := ⟨_, rfl⟩
  have hE : Ext w W0 := by rw [hW0]; exact (by repeat (first | exact Below.refl _ _ | refine Ext.al ?_ _ | refine Ext.dr ?_ | refine Ext.drN ?_ _ | refine Ext.gr ?_ _ | refine Ext.set ?_ (by simp) _ | (refine Ext.trans' ?_ (by assumption))))
  have k0 : W0.cell? ⟨w.heap.size, 0, none⟩ = some (.slice sa ks.length cap) := by rw [hW0]; simp [go_sem]
  have hz : w.heap.size < W0.heap.size := World.block_lt_of_cell? _ _ k0
  have HS := Lib.hid (HV.out.ext hE)
  have HW := Lib.hid hE
  rw [← hW0]
  clear hW0 HV
  have HB := Lib.hid (HB0.out.ext hE)
  clear hE HB0



  go_wp2_with fail
  refine callW (W0 := W0) (g := ⟨W0, Below.refl _ _⟩) (by exact (by repeat (first | exact Below.refl _ _ | refine Ext.al ?_ _ | refine Ext.dr ?_ | refine Ext.drN ?_ _ | refine Ext.gr ?_ _ | refine Ext.set ?_ (by simp) _ | (refine Ext.trans' ?_ (by assumption))))) (fineL_any ks _ _ (HS.out.ext (by exact (by repeat (first | exact Below.refl _ _ | refine Ext.al ?_ _ | refine Ext.dr ?_ | refine Ext.drN ?_ _ | refine Ext.gr ?_ _ | refine Ext.set ?_ (by simp) _ | (refine Ext.trans' ?_ (by assumption))))))) fun g1 hgr => ?_
  clear hgr
  cases hfn : fineB ks
  · clear hfn

    go_wp2_with fail
    refine callW (W0 := W0) (g := g1) (by exact (by repeat (first | exact Below.refl _ _ | refine Ext.al ?_ _ | refine Ext.dr ?_ | refine Ext.drN ?_ _ | refine Ext.gr ?_ _ | refine Ext.set ?_ (by simp) _ | (refine Ext.trans' ?_ (by assumption))))) (works_any _) fun g2 hgr => ?_
    clear hgr
    go_wp2_with fail
    go_ret
    exact ⟨rfl, HW.out.trans' (grow_below W0 g2)⟩

  have V := Lib.hid (tval_of (of_decide_eq_true hfn))
  have n1 := V.out.n1
  have n5 := V.out.n5
  clear hfn
  by_cases hb20 : 20 < bs.length
  · have hd : decide ((20 : Int) < (bs.length : Int)) = true := decide_eq_true (by omega)
    clear hb20

    go_wp2_with fail
    refine callW (W0 := W0) (g := g1) (by exact (by repeat (first | exact Below.refl _ _ | refine Ext.al ?_ _ | refine Ext.dr ?_ | refine Ext.drN ?_ _ | refine Ext.gr ?_ _ | refine Ext.set ?_ (by simp) _ | (refine Ext.trans' ?_ (by assumption))))) (works_any _) fun g3 hgr => ?_
    clear hgr
    go_wp2_with fail
    go_ret
    exact ⟨rfl, HW.out.trans' (grow_below W0 g3)⟩

  have hd : decide ((20 : Int) < (bs.length : Int)) = false := decide_eq_false (by omega)
  clear hb20
  go_wp2_with fail
  refine callWR (W0 := W0) (g := g1) (by exact (by repeat (first | exact Below.refl _ _ | refine Ext.al ?_ _ | refine Ext.dr ?_ | refine Ext.drN ?_ _ | refine Ext.gr ?_ _ | refine Ext.set ?_ (by simp) _ | (refine Ext.trans' ?_ (by assumption))))) (stateL_any ks bs _ _ _ (HS.out.ext (by exact (by repeat (first | exact Below.refl _ _ | refine Ext.al ?_ _ | refine Ext.dr ?_ | refine Ext.drN ?_ _ | refine Ext.gr ?_ _ | refine Ext.set ?_ (by simp) _ | (refine Ext.trans' ?_ (by assumption)))))) (HB.out.ext (by exact (by repeat (first | exact Below.refl _ _ | refine Ext.al ?_ _ | refine Ext.dr ?_ | refine Ext.drN ?_ _ | refine Ext.gr ?_ _ | refine Ext.set ?_ (by simp) _ | (refine Ext.trans' ?_ (by assumption)))))) H8.out V.out) (fun _ _ ⟨_, _, _, r, _⟩ => r) fun _ g4 hgr hr => ?_
  obtain ⟨x, s, rfl, -, hI, hst⟩ := hr
  clear hgr
  obtain ⟨a0, c0, rfl, -⟩ := hI.spec
  have HL := Lib.hid hI
  have HST := Lib.hid hst
  clear hI hst

  go_wp2_with fail
  refine callWR (W0 := W0) (g := g4) (by exact (by repeat (first | exact Below.refl _ _ | refine Ext.al ?_ _ | refine Ext.dr ?_ | refine Ext.drN ?_ _ | refine Ext.gr ?_ _ | refine Ext.set ?_ (by simp) _ | (refine Ext.trans' ?_ (by assumption))))) (wait_any ks s _ _ _ (HS.out.ext (by exact (by repeat (first | exact Below.refl _ _ | refine Ext.al ?_ _ | refine Ext.dr ?_ | refine Ext.drN ?_ _ | refine Ext.gr ?_ _ | refine Ext.set ?_ (by simp) _ | (refine Ext.trans' ?_ (by assumption)))))) (HL.out.ext (by exact (by repeat (first | exact Below.refl _ _ | refine Ext.al ?_ _ | refine Ext.dr ?_ | refine Ext.drN ?_ _ | refine Ext.gr ?_ _ | refine Ext.set ?_ (by simp) _ | (refine Ext.trans' ?_ (by assumption))))))) (fun _ _ ⟨_, _, r, _⟩ => r) fun _ g5 hgr hr => ?_
  obtain ⟨x, rfl, -, hI⟩ := hr
  replace HL := Lib.hid (HL.out.ext hgr)
  clear hgr
  obtain ⟨a1, c1, rfl, -⟩ := hI.spec
  have HI1 := Lib.hid hI
  clear hI

  go_wp2_with fail
  refine callWR (W0 := W0) (g := g5) (by exact (by repeat (first | exact Below.refl _ _ | refine Ext.al ?_ _ | refine Ext.dr ?_ | refine Ext.drN ?_ _ | refine Ext.gr ?_ _ | refine Ext.set ?_ (by simp) _ | (refine Ext.trans' ?_ (by assumption))))) (doomF_any ks s _ _ _ (HS.out.ext (by exact (by repeat (first | exact Below.refl _ _ | refine Ext.al ?_ _ | refine Ext.dr ?_ | refine Ext.drN ?_ _ | refine Ext.gr ?_ _ | refine Ext.set ?_ (by simp) _ | (refine Ext.trans' ?_ (by assumption)))))) (HL.out.ext (by exact (by repeat (first | exact Below.refl _ _ | refine Ext.al ?_ _ | refine Ext.dr ?_ | refine Ext.drN ?_ _ | refine Ext.gr ?_ _ | refine Ext.set ?_ (by simp) _ | (refine Ext.trans' ?_ (by assumption))))))) (fun _ _ ⟨_, _, _, r, _⟩ => r) fun _ g6 hgr hr => ?_
  obtain ⟨x, dl, rfl, -, hI, -, -⟩ := hr
  replace HL := Lib.hid (HL.out.ext hgr)
  replace HI1 := Lib.hid (HI1.out.ext hgr)
  clear hgr
  obtain ⟨a2, c2, rfl, -, -⟩ := hI.spec
  clear hI
  have hsl := isSt_len HST.out
  have hs5 : s.length ≤ 5 := by omega
  have hA := pow5 n5
  obtain ⟨A, hAe⟩ : ∃ A, A = 2 ^ ks.length := ⟨_, rfl⟩
  have hmin : min s.length 64 = s.length := by omega
  rw [← hAe] at hA
  obtain ⟨O, hO⟩ : ∃ O : Nat, O = mm.toNat % A := ⟨_, rfl⟩
  have hOA : O < A := by rw [hO]; exact Nat.mod_lt _ (by omega)
  have hmt : Int.tmod mm (A : Int) = (O : Int) := by
    rw [Int.tmod_eq_emod_of_nonneg (by omega), hO]
    conv => lhs; rw [show mm = (mm.toNat : Int) by omega]
    rfl
  have hme : mm % (A : Int) = (O : Int) := by rw [← hmt, Int.tmod_eq_emod_of_nonneg (by omega)]
  have hAn : ((A : Int) == 0) = false := by rw [beq_eq_false_iff_ne]; omega
  have hAn2 : ¬ ((A : Int) = 0) := by omega
  have hw1 : IntKind.i64.wrap mm = mm := IntWalk.i64_in _ (by omega)
  have hw3 : IntKind.i64.wrap (O : Int) = (O : Int) := IntWalk.i64_in _ (by omega)
  have hOp : O < 2 ^ ks.length := by rw [← hAe]; exact hOA
  have HOP := Lib.hid hOp
  have HAE := Lib.hid hAe
  have HSL := Lib.hid hsl
  have hshw : IntKind.i64.wrap (2 ^ s.length) = (A : Int) := by rw [shlw5 hs5, hsl, hAe]
  clear hO hAe hOp hsl
  go_upto_region 7 with (fail)
  clear hshw hmin hmt hme hAn hAn2 hw1 hw3
  rcases wait_cases V.out HST.out with ⟨e1, e2, e3, e4⟩ | ⟨e1, B, hB, e2, e3, e4, e5⟩
  · rw [e1, e2, e3]
    have HNO := Lib.hid (e4 O HOP.out)
    clear e1 e2 e3 e4

    go_wp2_with fail
    refine callW (W0 := W0) (g := g6) (by exact (by repeat (first | exact Below.refl _ _ | refine Ext.al ?_ _ | refine Ext.dr ?_ | refine Ext.drN ?_ _ | refine Ext.gr ?_ _ | refine Ext.set ?_ (by simp) _ | (refine Ext.trans' ?_ (by assumption))))) (leadsW_any ks s O _ _ _ (HS.out.ext (by exact (by repeat (first | exact Below.refl _ _ | refine Ext.al ?_ _ | refine Ext.dr ?_ | refine Ext.drN ?_ _ | refine Ext.gr ?_ _ | refine Ext.set ?_ (by simp) _ | (refine Ext.trans' ?_ (by assumption)))))) (HL.out.ext (by exact (by repeat (first | exact Below.refl _ _ | refine Ext.al ?_ _ | refine Ext.dr ?_ | refine Ext.drN ?_ _ | refine Ext.gr ?_ _ | refine Ext.set ?_ (by simp) _ | (refine Ext.trans' ?_ (by assumption)))))) HOP.out V.out HST.out) fun g7 hgr => ?_
    replace HL := Lib.hid (HL.out.ext hgr)
    replace HI1 := Lib.hid (HI1.out.ext hgr)
    clear hgr
    rw [HNO.out]
    go_wp2_with fail
    refine callW (W0 := W0) (g := g7) (by exact (by repeat (first | exact Below.refl _ _ | refine Ext.al ?_ _ | refine Ext.dr ?_ | refine Ext.drN ?_ _ | refine Ext.gr ?_ _ | refine Ext.set ?_ (by simp) _ | (refine Ext.trans' ?_ (by assumption))))) (works_any _) fun g8 hgr => ?_
    replace HL := Lib.hid (HL.out.ext hgr)
    replace HI1 := Lib.hid (HI1.out.ext hgr)
    clear hgr
    go_wp2_with fail
    go_ret
    exact ⟨rfl, HW.out.trans' (grow_below W0 g8)⟩

  rw [e1, e2]
  rw [e2] at HI1
  obtain ⟨l, hl⟩ : ∃ l, l = bitsL ks.length B := ⟨_, rfl⟩
  have hlen5 : l.length ≤ 5 := by have := bitsL_len ks.length B; rw [hl]; omega
  have hval : valL l = B := by rw [hl, valL_bits, Nat.mod_eq_of_lt hB]
  have hBA : B < A := by rw [HAE.out]; exact hB
  have hstep := fun k (hk : k < l.length) => bits_step (n := ks.length) (B := B) (k := k) (by rw [← hl]; exact hk)
  rw [← hl] at HI1 hstep e4 e5 ⊢
  obtain ⟨er, her⟩ : ∃ er, er = doomRErr ks s := ⟨_, rfl⟩
  rw [← her] at e5 ⊢
  obtain ⟨z, hz1, hz2⟩ : ∃ z : Bool, ((l.length : Int) == 0) = z ∧ (er == 5) = z := by
    rcases e5 with ⟨x1, x2⟩ | ⟨x1, x2⟩
    · exact ⟨true, by rw [x1]; rfl, by rw [x2]; rfl⟩
    · exact ⟨false, by rw [beq_eq_false_iff_ne]; omega, by rw [x2]; rfl⟩
  have hzz : (z != z) = false := by simp
  have HLQ := Lib.hid hl
  have HVAL := Lib.hid hval
  have HSTEP := Lib.hid hstep
  have HYES := Lib.hid e3
  have HBEF := Lib.hid e4
  have HBP := Lib.hid hB
  have HZ := Lib.hid (And.intro hz1 hz2)
  clear e1 e2 e3 e4 e5 hl hval hstep hB her hz1 hz2
  go_upto_region 9 with (fail)
  obtain ⟨U, hU⟩ : ∃ zz9, zz9 = (grow W0 g6) := ⟨_, rfl⟩
  have eU : Ext W0 U := by rw [hU]; exact (by repeat (first | exact Below.refl _ _ | refine Ext.al ?_ _ | refine Ext.dr ?_ | refine Ext.drN ?_ _ | refine Ext.gr ?_ _ | refine Ext.set ?_ (by simp) _ | (refine Ext.trans' ?_ (by assumption))))
  have eUc : Ext (grow W0 g6) U := by rw [hU]; exact (by repeat (first | exact Below.refl _ _ | refine Ext.al ?_ _ | refine Ext.dr ?_ | refine Ext.drN ?_ _ | refine Ext.gr ?_ _ | refine Ext.set ?_ (by simp) _ | (refine Ext.trans' ?_ (by assumption))))
  replace k0 := cell_ext eU k0
  replace HS := Lib.hid (HS.out.ext eU)
  replace HB := Lib.hid (HB.out.ext eU)
  replace HL := Lib.hid (HL.out.ext eUc)
  replace HI1 := Lib.hid (HI1.out.ext eUc)
  replace HW := Lib.hid (HW.out.trans' eU)
  rw [← hU]
  replace hz := World.block_lt_of_cell? _ _ k0
  clear hU eU eUc
  simp only at hz
  go_wp2_with fail
  go_loopw [13, 14] (fun sv iv W => ∃ k : Nat, k ≤ l.length ∧ iv = .int .i64 k ∧ sv = .int .i64 (valL (l.take k)) ∧ Ext U W) (fun _ iv _ => l.length - (intOf iv).toNat)
  case atStart => exact ⟨0, by omega, rfl, rfl, Below.refl _ _⟩
  case round =>
    obtain ⟨k, hk, rfl, rfl, hE⟩ := hrel
    have HE := Lib.hid hE
    have k1 := cell_ext hE k0
    have hz1 := World.block_lt_of_cell? _ _ k1
    simp only at hz1
    have HSr := Lib.hid (HS.out.ext hE)
    have HLr := Lib.hid (HL.out.ext hE)
    have HIr := Lib.hid (HI1.out.ext hE)
    have HR := Lib.hid (HW.out.trans' hE)
    have hVle : valL (l.take k) ≤ 31 := by have := valL_le l k; have := HVAL.out; omega
    by_cases hlt : k < l.length
    · have hki : (k : Int) < (l.length : Int) := by omega
      obtain ⟨X, hX, hXn, hXj⟩ := HSTEP.out k hlt
      have hvt := valL_take hlt
      rw [hX, Int.toNat_natCast] at hvt
      have hvl := valL_le l (k + 1)
      obtain ⟨P, hP⟩ : ∃ P, P = 2 ^ X := ⟨_, rfl⟩
      rw [← hP] at hvt
      obtain ⟨V0, hV0⟩ : ∃ V0, V0 = valL (l.take k) := ⟨_, rfl⟩
      rw [← hV0] at hvt hVle ⊢
      have hPle : P ≤ 31 := by have := HVAL.out; omega
      obtain ⟨b, off, rfl, hbz, HC⟩ := HI1.out.at_all (by omega)
      have c0 := HC wr hE k hlt
      rw [hX] at c0
      have hcz := World.block_lt_of_cell? _ _ c0
      simp only at hcz
      have cw := fun W hs => isWindow_any ks (X : Int) (.slice sa ks.length cap) W hs
      rw [show inR 0 ((ks.length : Int) - 1) (X : Int) = true from inR_iff.2 (by omega)] at cw
      have CW := Lib.hid cw
      have hshX : IntKind.i64.wrap (2 ^ X) = (P : Int) := by rw [shlw5 (by omega), hP]
      have hminX : min X 64 = X := by omega
      have HVT := Lib.hid hvt
      have HSX := Lib.hid hshX
      have hX5 : X ≤ 5 := by omega
      clear cw hX hvt hvl hP hV0 hshX hE
      by_cases hk0 : k = 0
      · subst hk0
        rw [Nat.add_zero] at c0
        have hd0 : decide ((0 : Int) < ((0 : Nat) : Int)) = false := by decide
        clear HC hXj
        go_upto_region 13 with (fail)
        refine wp_region_grow (by kernel_rfl) (by kernel_rfl) ?_
        repeat (first | go_big_quiet_step ((go_at_call 51; exact grow_call (CW.out _ (HSr.out.ext (grow_below _ _))))) | quiet_step ((go_at_call 51; exact grow_call (CW.out _ (HSr.out.ext (grow_below _ _))))))
        refine wpQuiet_nil ?_
        rintro _ ⟨g, rfl⟩
        have c2 := cell_ext (grow_below wr g) c0
        have hshX := HSX.out
        go_wp2_with fail
        go_roundw
        case rel => exact ⟨1, by omega, by go_num, by rw [HVT.out]; go_num, HE.out.trans' (grow_below _ _)⟩
        case measure => simp [intOf]; omega
      · obtain ⟨m, hm⟩ : ∃ m, m = k - 1 := ⟨_, rfl⟩
        have hkm : (k : Int) - 1 = (m : Int) := by omega
        have hwm : IntKind.i64.wrap ((k : Int) - 1) = (m : Int) := by rw [hkm]; exact IntWalk.i64_in _ (by omega)
        have hmi : (m : Int) < (l.length : Int) := by omega
        have d0 := HC wr HE.out m (by omega)
        have hYX := hXj m (by omega)
        obtain ⟨Yv, hYv⟩ : ∃ Yv, Yv = gt l m := ⟨_, rfl⟩
        rw [← hYv] at hYX
        rw [← hYv] at d0
        have hdl : decide ((X : Int) ≤ Yv) = false := decide_eq_false (by omega)
        have hd0 : decide ((0 : Int) < (k : Int)) = true := decide_eq_true (by omega)
        have hd1 : decide (0 < k) = true := decide_eq_true (by omega)
        clear HC hXj hm hYv hk0
        go_upto_region 13 with (fail)
        refine wp_region_grow (by kernel_rfl) (by kernel_rfl) ?_
        repeat (first | go_big_quiet_step ((go_at_call 51; exact grow_call (CW.out _ (HSr.out.ext (grow_below _ _))))) | quiet_step ((go_at_call 51; exact grow_call (CW.out _ (HSr.out.ext (grow_below _ _))))))
        refine wpQuiet_nil ?_
        rintro _ ⟨g, rfl⟩
        have c2 := cell_ext (grow_below wr g) c0
        have hshX := HSX.out
        go_wp2_with fail
        go_roundw
        case rel => exact ⟨k + 1, by omega, by go_num, by rw [HVT.out]; go_num, HE.out.trans' (grow_below _ _)⟩
        case measure => simp [intOf]; omega
    · have hki : ¬ ((k : Int) < (l.length : Int)) := by omega
      have hVB : valL (l.take k) = B := by rw [List.take_of_length_le (by omega : l.length ≤ k)]; exact HVAL.out
      rw [hVB]
      obtain ⟨hz3, hz4⟩ := HZ.out
      have hz5 : (l.length == 0) = z := by rw [← hz3, Bool.eq_iff_iff, beq_iff_eq, beq_iff_eq]; omega
      obtain ⟨G, hG⟩ : ∃ G, G = bitsL ks.length O := ⟨_, rfl⟩
      have hgb := fun h => HBEF.out O HOP.out h
      rw [← hG] at hgb
      have hbits := fun w => bitsR5_any ks.length O (by omega) HOP.out w
      rw [← hG] at hbits
      have hlead := fun W h1 h2 => leadsW_any ks s O (.slice sa ks.length cap) (.slice a0 s.length c0) W h1 h2 HOP.out V.out HST.out
      rw [← hG] at hlead
      have HGB := Lib.hid hgb
      have HBT := Lib.hid hbits
      have HLD := Lib.hid hlead
      clear hG hgb hbits hlead hE hVle hk hVB
      obtain ⟨Y, hY⟩ : ∃ Y, Y = wr := ⟨_, rfl⟩
      subst hY





      go_wp2_with fail
      refine callW (W0 := Y) (g := ⟨Y, Below.refl _ _⟩) (by exact (by repeat (first | exact Below.refl _ _ | refine Ext.al ?_ _ | refine Ext.dr ?_ | refine Ext.drN ?_ _ | refine Ext.gr ?_ _ | refine Ext.set ?_ (by simp) _ | (refine Ext.trans' ?_ (by assumption))))) (leadsW_any ks s B _ _ _ (HSr.out.ext (by exact (by repeat (first | exact Below.refl _ _ | refine Ext.al ?_ _ | refine Ext.dr ?_ | refine Ext.drN ?_ _ | refine Ext.gr ?_ _ | refine Ext.set ?_ (by simp) _ | (refine Ext.trans' ?_ (by assumption)))))) (HLr.out.ext (by exact (by repeat (first | exact Below.refl _ _ | refine Ext.al ?_ _ | refine Ext.dr ?_ | refine Ext.drN ?_ _ | refine Ext.gr ?_ _ | refine Ext.set ?_ (by simp) _ | (refine Ext.trans' ?_ (by assumption)))))) HBP.out V.out HST.out) fun g1 hgr => ?_
      clear hgr
      rw [HYES.out]
      go_wp2_with fail
      refine callWR (W0 := Y) (g := g1) (by exact (by repeat (first | exact Below.refl _ _ | refine Ext.al ?_ _ | refine Ext.dr ?_ | refine Ext.drN ?_ _ | refine Ext.gr ?_ _ | refine Ext.set ?_ (by simp) _ | (refine Ext.trans' ?_ (by assumption))))) (HBT.out _) (fun _ _ ⟨_, _, r, _⟩ => r) fun _ g2 hgr hr => ?_
      obtain ⟨gv, rfl, -, hI⟩ := hr
      clear hgr
      obtain ⟨a3, c3, rfl, -⟩ := hI.spec
      have HG := Lib.hid hI
      clear hI

      rcases Nat.lt_trichotomy G.length l.length with h | h | h
      · have hd1 : decide ((G.length : Int) < (l.length : Int)) = true := decide_eq_true (by omega)
        have hd2 : decide (G.length < l.length) = true := decide_eq_true h
        have HN := Lib.hid (HGB.out (.inl h))
        clear h

        go_wp2_with fail
        refine callW (W0 := Y) (g := g2) (by exact (by repeat (first | exact Below.refl _ _ | refine Ext.al ?_ _ | refine Ext.dr ?_ | refine Ext.drN ?_ _ | refine Ext.gr ?_ _ | refine Ext.set ?_ (by simp) _ | (refine Ext.trans' ?_ (by assumption))))) (HLD.out _ (HSr.out.ext (by exact (by repeat (first | exact Below.refl _ _ | refine Ext.al ?_ _ | refine Ext.dr ?_ | refine Ext.drN ?_ _ | refine Ext.gr ?_ _ | refine Ext.set ?_ (by simp) _ | (refine Ext.trans' ?_ (by assumption)))))) (HLr.out.ext (by exact (by repeat (first | exact Below.refl _ _ | refine Ext.al ?_ _ | refine Ext.dr ?_ | refine Ext.drN ?_ _ | refine Ext.gr ?_ _ | refine Ext.set ?_ (by simp) _ | (refine Ext.trans' ?_ (by assumption))))))) fun g3 hgr => ?_
        replace HG := Lib.hid (HG.out.ext hgr)
        clear hgr
        rw [HN.out]
        go_wp2_with fail
        refine callW (W0 := Y) (g := g3) (by exact (by repeat (first | exact Below.refl _ _ | refine Ext.al ?_ _ | refine Ext.dr ?_ | refine Ext.drN ?_ _ | refine Ext.gr ?_ _ | refine Ext.set ?_ (by simp) _ | (refine Ext.trans' ?_ (by assumption))))) (works_any _) fun g4 hgr => ?_
        replace HG := Lib.hid (HG.out.ext hgr)
        clear hgr
        go_wp2_with fail
        go_ret
        exact ⟨rfl, HR.out.trans' (grow_below Y g4)⟩

      · have hd1 : decide ((G.length : Int) < (l.length : Int)) = false := decide_eq_false (by omega)
        have hd2 : decide (G.length < l.length) = false := decide_eq_false (by omega)
        have hd3 : ((G.length : Int) == (l.length : Int)) = true := by rw [beq_iff_eq]; omega
        have hd4 : (G.length == l.length) = true := by rw [beq_iff_eq]; exact h
        have HEQ := Lib.hid h
        clear h
        by_cases hOB : O = B
        · subst hOB
          have hd5 : ((O : Int) != (O : Int)) = false := by simp
          have hd6 : (O != O) = false := by simp

          go_wp2_with fail
          refine callW (W0 := Y) (g := g2) (by exact (by repeat (first | exact Below.refl _ _ | refine Ext.al ?_ _ | refine Ext.dr ?_ | refine Ext.drN ?_ _ | refine Ext.gr ?_ _ | refine Ext.set ?_ (by simp) _ | (refine Ext.trans' ?_ (by assumption))))) (works_any _) fun g5 hgr => ?_
          replace HG := Lib.hid (HG.out.ext hgr)
          clear hgr
          go_wp2_with fail
          go_ret
          exact ⟨rfl, HR.out.trans' (grow_below Y g5)⟩

        · have hd5 : ((O : Int) != (B : Int)) = true := by rw [bne_iff_ne]; omega
          have hd6 : (O != B) = true := by rw [bne_iff_ne]; exact hOB
          clear hOB

          go_wp2_with fail
          refine callW (W0 := Y) (g := g2) (by exact (by repeat (first | exact Below.refl _ _ | refine Ext.al ?_ _ | refine Ext.dr ?_ | refine Ext.drN ?_ _ | refine Ext.gr ?_ _ | refine Ext.set ?_ (by simp) _ | (refine Ext.trans' ?_ (by assumption))))) (firstL_any G l _ _ _ (HG.out.ext (by exact (by repeat (first | exact Below.refl _ _ | refine Ext.al ?_ _ | refine Ext.dr ?_ | refine Ext.drN ?_ _ | refine Ext.gr ?_ _ | refine Ext.set ?_ (by simp) _ | (refine Ext.trans' ?_ (by assumption)))))) (HIr.out.ext (by exact (by repeat (first | exact Below.refl _ _ | refine Ext.al ?_ _ | refine Ext.dr ?_ | refine Ext.drN ?_ _ | refine Ext.gr ?_ _ | refine Ext.set ?_ (by simp) _ | (refine Ext.trans' ?_ (by assumption)))))) HEQ.out) fun g6 hgr => ?_
          replace HG := Lib.hid (HG.out.ext hgr)
          clear hgr
          cases hb : befr G l
          · clear hb

            go_wp2_with fail
            refine callW (W0 := Y) (g := g6) (by exact (by repeat (first | exact Below.refl _ _ | refine Ext.al ?_ _ | refine Ext.dr ?_ | refine Ext.drN ?_ _ | refine Ext.gr ?_ _ | refine Ext.set ?_ (by simp) _ | (refine Ext.trans' ?_ (by assumption))))) (works_any _) fun g7 hgr => ?_
            replace HG := Lib.hid (HG.out.ext hgr)
            clear hgr
            go_wp2_with fail
            go_ret
            exact ⟨rfl, HR.out.trans' (grow_below Y g7)⟩

          · have HN := Lib.hid (HGB.out (.inr ⟨HEQ.out, (befr_lex HEQ.out).1 hb⟩))
            clear hb
            go_wp2_with fail
            refine callW (W0 := Y) (g := g6) (by exact (by repeat (first | exact Below.refl _ _ | refine Ext.al ?_ _ | refine Ext.dr ?_ | refine Ext.drN ?_ _ | refine Ext.gr ?_ _ | refine Ext.set ?_ (by simp) _ | (refine Ext.trans' ?_ (by assumption))))) (HLD.out _ (HSr.out.ext (by exact (by repeat (first | exact Below.refl _ _ | refine Ext.al ?_ _ | refine Ext.dr ?_ | refine Ext.drN ?_ _ | refine Ext.gr ?_ _ | refine Ext.set ?_ (by simp) _ | (refine Ext.trans' ?_ (by assumption)))))) (HLr.out.ext (by exact (by repeat (first | exact Below.refl _ _ | refine Ext.al ?_ _ | refine Ext.dr ?_ | refine Ext.drN ?_ _ | refine Ext.gr ?_ _ | refine Ext.set ?_ (by simp) _ | (refine Ext.trans' ?_ (by assumption))))))) fun g8 hgr => ?_
            replace HG := Lib.hid (HG.out.ext hgr)
            clear hgr
            rw [HN.out]
            go_wp2_with fail
            refine callW (W0 := Y) (g := g8) (by exact (by repeat (first | exact Below.refl _ _ | refine Ext.al ?_ _ | refine Ext.dr ?_ | refine Ext.drN ?_ _ | refine Ext.gr ?_ _ | refine Ext.set ?_ (by simp) _ | (refine Ext.trans' ?_ (by assumption))))) (works_any _) fun g9 hgr => ?_
            replace HG := Lib.hid (HG.out.ext hgr)
            clear hgr
            go_wp2_with fail
            go_ret
            exact ⟨rfl, HR.out.trans' (grow_below Y g9)⟩

      · have hd1 : decide ((G.length : Int) < (l.length : Int)) = false := decide_eq_false (by omega)
        have hd2 : decide (G.length < l.length) = false := decide_eq_false (by omega)
        have hd3 : ((G.length : Int) == (l.length : Int)) = false := by rw [beq_eq_false_iff_ne]; omega
        have hd4 : (G.length == l.length) = false := by rw [beq_eq_false_iff_ne]; omega
        clear h
        go_wp2_with fail
        refine callW (W0 := Y) (g := g2) (by exact (by repeat (first | exact Below.refl _ _ | refine Ext.al ?_ _ | refine Ext.dr ?_ | refine Ext.drN ?_ _ | refine Ext.gr ?_ _ | refine Ext.set ?_ (by simp) _ | (refine Ext.trans' ?_ (by assumption))))) (works_any _) fun g10 hgr => ?_
        replace HG := Lib.hid (HG.out.ext hgr)
        clear hgr
        go_wp2_with fail
        go_ret
        exact ⟨rfl, HR.out.trans' (grow_below Y g10)⟩
end Go.Proofs.Ytndgaklcnhoddaa
namespace Go.Proofs.Ytndgaklcnhoddaa
open Go.RowKit
open Go.ChangeShapes Go.WideShapes Go.ChangeAt in
set_option maxRecDepth 100000 in
theorem turnWaited_lifted (os : Os) (started : os.Started) (H : Type) (enc : TypeId × Value → H) :
    ReturnsInHanded {} Try.checked os 15 .any (Rows.turnWaitedSpec.pre6 enc Try.prog Try.f15 Rows.turnWaitedRow.domain false) (Rows.turnWaitedSpec.post enc Try.prog Try.f15 false true false false) := by
  refine returnsInHanded_of_change (C := Try.checked) own started (by kernel_rfl) Try.func15
    (ChangeSpec.witness6 (enc := enc) (C := Try.checked) false ⟨#[], #[.agg #[.slice none 0 0], .slice none 0 0, .int .u8 0], []⟩ 8 (by kernel_rfl) (by kernel_rfl) (by kernel_rfl) (by kernel_rfl)) ?_
  intro W base args ds gs before hval0 hW hcnd _
  have hval : ∀ (j : Nat) t v, Try.f15.params[j]? = some t → args[j]? = some v → Value.okWide Try.prog W .any base t v := hval0
  have hW' := hW
  obtain ⟨p, q, hA0, hV, rfl, hfz, hnd⟩ := hW
  have hA : DataW.TrodAll enc Try.prog W 0 (fun _ => true) true Try.f15.params.toList args.toList ds p := hA0
  rw [Try.params15] at hA hval
  obtain ⟨v0, vs0, d0, ds0, p0, q0, hargs, rfl, rfl, h0, r0⟩ := trodAll_cons hA
  obtain ⟨v1, vs1, d1, ds1, p1, q1, rfl, rfl, rfl, h1, r1⟩ := trodAll_cons r0
  obtain ⟨v2, vs2, d2, ds2, p2, q2, rfl, rfl, rfl, h2, r2⟩ := trodAll_cons r1
  obtain ⟨rfl, rfl, rfl⟩ := trodAll_nil r2
  obtain rfl : args = #[v0, v1, v2] := by cases args; simp_all
  obtain ⟨ks, sks, rfl, hks⟩ := openHall (hval 0 24 v0 rfl rfl) h0
  obtain ⟨bs, hbs, wbs⟩ := openNumsK (k := .u8) Try.underlying52 Try.underlying5 (by kernel_rfl) (hval 1 52 v1 rfl rfl) h1
  obtain ⟨mm, rfl, rfl, rfl, wmm⟩ := open_int Try.underlying5 (hval 2 5 v2 rfl rfl) h2
  clear hA0 hval0
  refine (turnWaited_any ks sks v1 bs mm W hks hbs wbs wmm).mono fun e W' ⟨he, hb⟩ => ?_
  subst he
  exact ⟨_, rfl, law_post laidOut (tb := 4) (hts_of (by kernel_rfl)) (by kernel_rfl) Try.underlying4 hW' rfl rfl hb⟩
theorem turnWaited_holds : Rows.TurnWaitedSaid :=
  OpenClaim.holds_of_wide 15 Try.f15 rfl rfl rfl rfl rfl rfl rfl ⟨rfl, rfl, rfl, rfl, rfl⟩ rfl rfl rfl rfl rfl (by kernel_rfl) Try.func15 (by kernel_rfl)
    (of_decide_eq_true (by kernel_rfl)) (by unfold Func.isWrapper; first | (rw [if_pos (by decide +kernel)]; kernel_rfl) | (rw [if_neg (by decide +kernel)]; exact ⟨rfl, rfl⟩))
    (fun os started H enc _ => turnWaited_lifted os started H enc)
end Go.Proofs.Ytndgaklcnhoddaa
