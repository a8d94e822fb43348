/-
  The walks of the reference's Play and Turn.
-/
import Derived.Test.YtndgaklcnhoddaaRa
import Derived.Test.YtndgaklcnhoddaaWa
namespace Go.Proofs.Ytndgaklcnhoddaa
open Go.RowKit Go.Shelf
set_option maxRecDepth 100000 in
set_option maxHeartbeats 2000000 in
theorem playR_any (ks s row : List Int) (kv lv rv : Value) (w : World) (hv : IsInts w .i64 kv ks) (hl : IsInts w .i64 lv s) (hr : IsInts w .i64 rv row) :
    Calls Try.prog 27 #[.agg #[kv], lv, rv] w (RetPlay ks s row w) := by
  obtain ⟨sa, cap, rfl, h1, h2, -⟩ := hv.spec
  obtain ⟨la, lcap, rfl, h3, h4, -⟩ := hl.spec
  obtain ⟨ra, rcap, rfl, h5, h6, -⟩ := hr.spec
  have HV := Lib.hid hv
  have HL0 := Lib.hid hl
  have HR0 := Lib.hid hr
  clear hv hl hr
  go_enter Try.func27, Try.ntmps27
  go_upto_region 1 with (fail)
  obtain ⟨W0, hW0⟩ : ∃ W0, W0 = w.alloc (.cells #[.slice sa ks.length cap] 24) := ⟨_, rfl⟩
  have hE : Ext w W0 := by rw [hW0]; exact (by repeat (first | exact Below.refl _ _ | refine Ext.al ?_ _ | refine Ext.dr ?_ | refine Ext.drN ?_ _ | refine Ext.gr ?_ _ | refine Ext.set ?_ (by simp) _ | (refine Ext.trans' ?_ (by assumption))))
  have k0 : W0.cell? ⟨w.heap.size, 0, none⟩ = some (.slice sa ks.length cap) := by rw [hW0]; simp [go_sem]
  have hz : w.heap.size < W0.heap.size := World.block_lt_of_cell? _ _ k0
  have HS := Lib.hid (HV.out.ext hE)
  have HW := Lib.hid hE
  rw [← hW0]
  clear hW0 HV
  have HL := Lib.hid (HL0.out.ext hE)
  have HR := Lib.hid (HR0.out.ext hE)
  clear hE HL0 HR0
  obtain ⟨er, her⟩ : ∃ er, er = stErr ks s := ⟨_, rfl⟩
  obtain ⟨re, hre⟩ : ∃ re, re = rowErr ks row := ⟨_, rfl⟩
  have c1 := fun W h1 h2 => statedR_any ks s (.slice sa ks.length cap) (.slice la s.length lcap) W h1 h2
  have c2 := fun W h1 h2 => isRow_any ks row (.slice sa ks.length cap) (.slice ra row.length rcap) W h1 h2
  simp only [← her] at c1
  simp only [← hre] at c2
  have C1 := Lib.hid c1
  have C2 := Lib.hid c2
  have HER := Lib.hid her
  have HRE := Lib.hid hre
  clear c1 c2 her hre



  by_cases hst : er = 0
  rotate_left
  · have e1 : (er == 0) = false := by simpa using hst
    have e2 : (er != 0) = true := by simpa using hst
    have HST := Lib.hid hst
    clear hst

    go_wp2_with fail
    refine callW (W0 := W0) (g := ⟨W0, Below.refl _ _⟩) (by exact (by repeat (first | exact Below.refl _ _ | refine Ext.al ?_ _ | refine Ext.dr ?_ | refine Ext.drN ?_ _ | refine Ext.gr ?_ _ | refine Ext.set ?_ (by simp) _ | (refine Ext.trans' ?_ (by assumption))))) (C1.out _ (HS.out.ext (by exact (by repeat (first | exact Below.refl _ _ | refine Ext.al ?_ _ | refine Ext.dr ?_ | refine Ext.drN ?_ _ | refine Ext.gr ?_ _ | refine Ext.set ?_ (by simp) _ | (refine Ext.trans' ?_ (by assumption)))))) (HL.out.ext (by exact (by repeat (first | exact Below.refl _ _ | refine Ext.al ?_ _ | refine Ext.dr ?_ | refine Ext.drN ?_ _ | refine Ext.gr ?_ _ | refine Ext.set ?_ (by simp) _ | (refine Ext.trans' ?_ (by assumption))))))) fun g1 hgr => ?_
    clear hgr
    go_wp2_with fail
    refine callW (W0 := W0) (g := g1) (by exact (by repeat (first | exact Below.refl _ _ | refine Ext.al ?_ _ | refine Ext.dr ?_ | refine Ext.drN ?_ _ | refine Ext.gr ?_ _ | refine Ext.set ?_ (by simp) _ | (refine Ext.trans' ?_ (by assumption))))) (C1.out _ (HS.out.ext (by exact (by repeat (first | exact Below.refl _ _ | refine Ext.al ?_ _ | refine Ext.dr ?_ | refine Ext.drN ?_ _ | refine Ext.gr ?_ _ | refine Ext.set ?_ (by simp) _ | (refine Ext.trans' ?_ (by assumption)))))) (HL.out.ext (by exact (by repeat (first | exact Below.refl _ _ | refine Ext.al ?_ _ | refine Ext.dr ?_ | refine Ext.drN ?_ _ | refine Ext.gr ?_ _ | refine Ext.set ?_ (by simp) _ | (refine Ext.trans' ?_ (by assumption))))))) fun g2 hgr => ?_
    clear hgr
    go_wp2_with fail
    refine bodyPost_ret (v := .tuple #[.slice none 0 0, .int .i64 0, .int .i64 er]) (by simp [results, Try.results27, go_sem]) rfl ?_
    have a1 : playErr ks s row = er := by unfold playErr; rw [if_pos (by rw [← HER.out]; exact HST.out), HER.out]
    have a2 : playN ks s row = 0 := by unfold playN; rw [if_pos (.inl (by rw [← HER.out]; exact HST.out))]
    refine ⟨.slice none 0 0, by rw [a1, a2], HW.out.trans' (grow_below W0 _), ?_⟩
    unfold playL
    rw [if_neg (by rw [a1]; exact HST.out)]
    exact IsInts.nil _ _

  · obtain ⟨v, hs⟩ := stErr_ok (HER.out.symm.trans hst)
    have HST := Lib.hid (HER.out.symm.trans hst)
    have V := Lib.hid v
    have HIS := Lib.hid hs
    subst hst
    clear v hs
    go_wp2_with fail
    refine callW (W0 := W0) (g := ⟨W0, Below.refl _ _⟩) (by exact (by repeat (first | exact Below.refl _ _ | refine Ext.al ?_ _ | refine Ext.dr ?_ | refine Ext.drN ?_ _ | refine Ext.gr ?_ _ | refine Ext.set ?_ (by simp) _ | (refine Ext.trans' ?_ (by assumption))))) (C1.out _ (HS.out.ext (by exact (by repeat (first | exact Below.refl _ _ | refine Ext.al ?_ _ | refine Ext.dr ?_ | refine Ext.drN ?_ _ | refine Ext.gr ?_ _ | refine Ext.set ?_ (by simp) _ | (refine Ext.trans' ?_ (by assumption)))))) (HL.out.ext (by exact (by repeat (first | exact Below.refl _ _ | refine Ext.al ?_ _ | refine Ext.dr ?_ | refine Ext.drN ?_ _ | refine Ext.gr ?_ _ | refine Ext.set ?_ (by simp) _ | (refine Ext.trans' ?_ (by assumption))))))) fun g3 hgr => ?_
    clear hgr
    by_cases hre : re = 0
    rotate_left
    · have e1 : (re == 0) = false := by simpa using hre
      have e2 : (re != 0) = true := by simpa using hre
      have HRE2 := Lib.hid hre
      clear hre

      go_wp2_with fail
      refine callW (W0 := W0) (g := g3) (by exact (by repeat (first | exact Below.refl _ _ | refine Ext.al ?_ _ | refine Ext.dr ?_ | refine Ext.drN ?_ _ | refine Ext.gr ?_ _ | refine Ext.set ?_ (by simp) _ | (refine Ext.trans' ?_ (by assumption))))) (C2.out _ (HS.out.ext (by exact (by repeat (first | exact Below.refl _ _ | refine Ext.al ?_ _ | refine Ext.dr ?_ | refine Ext.drN ?_ _ | refine Ext.gr ?_ _ | refine Ext.set ?_ (by simp) _ | (refine Ext.trans' ?_ (by assumption)))))) (HR.out.ext (by exact (by repeat (first | exact Below.refl _ _ | refine Ext.al ?_ _ | refine Ext.dr ?_ | refine Ext.drN ?_ _ | refine Ext.gr ?_ _ | refine Ext.set ?_ (by simp) _ | (refine Ext.trans' ?_ (by assumption))))))) fun g4 hgr => ?_
      clear hgr
      go_wp2_with fail
      refine callW (W0 := W0) (g := g4) (by exact (by repeat (first | exact Below.refl _ _ | refine Ext.al ?_ _ | refine Ext.dr ?_ | refine Ext.drN ?_ _ | refine Ext.gr ?_ _ | refine Ext.set ?_ (by simp) _ | (refine Ext.trans' ?_ (by assumption))))) (C2.out _ (HS.out.ext (by exact (by repeat (first | exact Below.refl _ _ | refine Ext.al ?_ _ | refine Ext.dr ?_ | refine Ext.drN ?_ _ | refine Ext.gr ?_ _ | refine Ext.set ?_ (by simp) _ | (refine Ext.trans' ?_ (by assumption)))))) (HR.out.ext (by exact (by repeat (first | exact Below.refl _ _ | refine Ext.al ?_ _ | refine Ext.dr ?_ | refine Ext.drN ?_ _ | refine Ext.gr ?_ _ | refine Ext.set ?_ (by simp) _ | (refine Ext.trans' ?_ (by assumption))))))) fun g5 hgr => ?_
      clear hgr
      go_wp2_with fail
      refine bodyPost_ret (v := .tuple #[.slice none 0 0, .int .i64 0, .int .i64 re]) (by simp [results, Try.results27, go_sem]) rfl ?_
      have a1 : playErr ks s row = re := by unfold playErr; rw [if_neg (fun h => h HST.out), if_pos (by rw [← HRE.out]; exact HRE2.out), HRE.out]
      have a2 : playN ks s row = 0 := by unfold playN; rw [if_pos (.inr (by rw [← HRE.out]; exact HRE2.out))]
      refine ⟨.slice none 0 0, by rw [a1, a2], HW.out.trans' (grow_below W0 _), ?_⟩
      unfold playL
      rw [if_neg (by rw [a1]; exact HRE2.out)]
      exact IsInts.nil _ _

    · have HR0 := Lib.hid (HRE.out.symm.trans hre)
      subst hre
      go_wp2_with fail
      refine callW (W0 := W0) (g := g3) (by exact (by repeat (first | exact Below.refl _ _ | refine Ext.al ?_ _ | refine Ext.dr ?_ | refine Ext.drN ?_ _ | refine Ext.gr ?_ _ | refine Ext.set ?_ (by simp) _ | (refine Ext.trans' ?_ (by assumption))))) (C2.out _ (HS.out.ext (by exact (by repeat (first | exact Below.refl _ _ | refine Ext.al ?_ _ | refine Ext.dr ?_ | refine Ext.drN ?_ _ | refine Ext.gr ?_ _ | refine Ext.set ?_ (by simp) _ | (refine Ext.trans' ?_ (by assumption)))))) (HR.out.ext (by exact (by repeat (first | exact Below.refl _ _ | refine Ext.al ?_ _ | refine Ext.dr ?_ | refine Ext.drN ?_ _ | refine Ext.gr ?_ _ | refine Ext.set ?_ (by simp) _ | (refine Ext.trans' ?_ (by assumption))))))) fun g6 hgr => ?_
      clear hgr
      obtain ⟨hlr, hwin⟩ := rowErr_ok HR0.out
      have HWIN := Lib.hid hwin
      clear hwin
      go_wp2_with fail
      refine (playedR_any ks s row _ _ _ _ (HS.out.ext (by exact (by repeat (first | exact Below.refl _ _ | refine Ext.al ?_ _ | refine Ext.dr ?_ | refine Ext.drN ?_ _ | refine Ext.gr ?_ _ | refine Ext.set ?_ (by simp) _ | (refine Ext.trans' ?_ (by assumption)))))) (HL.out.ext (by exact (by repeat (first | exact Below.refl _ _ | refine Ext.al ?_ _ | refine Ext.dr ?_ | refine Ext.drN ?_ _ | refine Ext.gr ?_ _ | refine Ext.set ?_ (by simp) _ | (refine Ext.trans' ?_ (by assumption)))))) (HR.out.ext (by exact (by repeat (first | exact Below.refl _ _ | refine Ext.al ?_ _ | refine Ext.dr ?_ | refine Ext.drN ?_ _ | refine Ext.gr ?_ _ | refine Ext.set ?_ (by simp) _ | (refine Ext.trans' ?_ (by assumption)))))) V.out HIS.out HWIN.out (by omega)).mono ?_
      rintro e W2 ⟨r, rfl, hE2, hr⟩
      have hE3 := HW.out.trans' (Ext.trans' (grow_below W0 _) hE2)
      obtain ⟨ra', rc', rfl, -, -, -⟩ := hr.spec
      have HE3 := Lib.hid hE3
      have HRR := Lib.hid hr
      clear hE2 hE3 hr
      obtain ⟨o, n, hon⟩ : ∃ o n, playP ks 0 s row = (o, n) := ⟨_, _, rfl⟩
      have HON := Lib.hid hon
      rw [hon] at HRR ⊢
      cases o with
      | none =>
        have hnl := playP_none row hon
        rw [Nat.zero_add] at hnl
        have hni : (n : Int) < (row.length : Int) := by omega
        clear hon
        go_wp2_with fail
        refine bodyPost_ret (v := .tuple #[.slice none 0 0, .int .i64 n, .int .i64 17]) (by simp [results, Try.results27, go_sem]) rfl ?_
        have a1 : playErr ks s row = 17 := by unfold playErr; rw [if_neg (fun h => h HST.out), if_neg (fun h => h HR0.out), HON.out]; rfl
        have a2 : playN ks s row = n := by unfold playN; rw [if_neg (by rintro (h | h); exact h HST.out; exact h HR0.out), HON.out]
        refine ⟨.slice none 0 0, by rw [a1, a2], HE3.out, ?_⟩
        unfold playL
        rw [if_neg (by rw [a1]; decide)]
        exact IsInts.nil _ _
      | some t =>
        have hnl := playP_some row hon
        rw [Nat.zero_add] at hnl
        subst hnl
        clear hon
        go_wp2_with fail
        refine bodyPost_ret (by simp [results, Try.results27, go_sem]; rfl) rfl ?_
        have a1 : playErr ks s row = 0 := by unfold playErr; rw [if_neg (fun h => h HST.out), if_neg (fun h => h HR0.out), HON.out]; rfl
        have a2 : playN ks s row = row.length := by unfold playN; rw [if_neg (by rintro (h | h); exact h HST.out; exact h HR0.out), HON.out]
        refine ⟨_, by rw [a1, a2], HE3.out, ?_⟩
        unfold playL
        rw [if_pos a1, HON.out]
        exact HRR.out
theorem incP_spec {n : Int} : ∀ {ps : List Int} {a : Int}, incP n a ps = true → ps.Pairwise (· < ·) ∧ ∀ x ∈ ps, a ≤ x ∧ x < n
  | [], a, _ => ⟨List.Pairwise.nil, fun x h => by cases h⟩
  | y :: ps, a, h => by
    rw [incP, Bool.and_eq_true, inR_iff] at h
    obtain ⟨h1, h2⟩ := incP_spec h.2
    refine ⟨List.pairwise_cons.2 ⟨fun x hx => by have := h2 x hx; omega, h1⟩, fun x hx => ?_⟩
    rcases List.mem_cons.1 hx with rfl | hx
    · omega
    · have := h2 x hx; omega
set_option maxRecDepth 100000 in
set_option maxHeartbeats 4000000 in
theorem turnR_any (ks s ps : List Int) (v : Int) (kv lv pv : Value) (w : World) (hv : IsInts w .i64 kv ks) (hl : IsInts w .i64 lv s) (hp : IsInts w .i64 pv ps) (hpl : ps.length ≤ 1000) :
    Calls Try.prog 21 #[.agg #[kv], lv, pv, .int .i64 v] w (RetTurn ks s ps v w) := by
  obtain ⟨sa, cap, rfl, h1, h2, -⟩ := hv.spec
  obtain ⟨la, lcap, rfl, h3, h4, -⟩ := hl.spec
  obtain ⟨pa, pcap, rfl, h5, h6, -⟩ := hp.spec
  have HV := Lib.hid hv
  have HL0 := Lib.hid hl
  have HP0 := Lib.hid hp
  clear hv hl hp
  go_enter Try.func21, Try.ntmps21
  go_upto_region 1 with (fail)
  obtain ⟨W0, hW0⟩ : ∃ W0, W0 = w.alloc (.cells #[.slice sa ks.length cap] 24) := ⟨_, rfl⟩
  have hE : Ext w W0 := by rw [hW0]; exact (by repeat (first | exact Below.refl _ _ | refine Ext.al ?_ _ | refine Ext.dr ?_ | refine Ext.drN ?_ _ | refine Ext.gr ?_ _ | refine Ext.set ?_ (by simp) _ | (refine Ext.trans' ?_ (by assumption))))
  have k0 : W0.cell? ⟨w.heap.size, 0, none⟩ = some (.slice sa ks.length cap) := by rw [hW0]; simp [go_sem]
  have hz : w.heap.size < W0.heap.size := World.block_lt_of_cell? _ _ k0
  have HS := Lib.hid (HV.out.ext hE)
  have HW := Lib.hid hE
  rw [← hW0]
  clear hW0 HV
  have HL := Lib.hid (HL0.out.ext hE)
  have HP := Lib.hid (HP0.out.ext hE)
  clear hE HL0 HP0
  obtain ⟨er, her⟩ : ∃ er, er = stErr ks s := ⟨_, rfl⟩
  have c1 := fun W h1 h2 => statedR_any ks s (.slice sa ks.length cap) (.slice la s.length lcap) W h1 h2
  simp only [← her] at c1
  have C1 := Lib.hid c1
  have HER := Lib.hid her
  clear c1 her



  by_cases hst : er = 0
  rotate_left
  · have e1 : (er == 0) = false := by simpa using hst
    have e2 : (er != 0) = true := by simpa using hst
    have HST := Lib.hid hst
    clear hst

    go_wp2_with fail
    refine callW (W0 := W0) (g := ⟨W0, Below.refl _ _⟩) (by exact (by repeat (first | exact Below.refl _ _ | refine Ext.al ?_ _ | refine Ext.dr ?_ | refine Ext.drN ?_ _ | refine Ext.gr ?_ _ | refine Ext.set ?_ (by simp) _ | (refine Ext.trans' ?_ (by assumption))))) (C1.out _ (HS.out.ext (by exact (by repeat (first | exact Below.refl _ _ | refine Ext.al ?_ _ | refine Ext.dr ?_ | refine Ext.drN ?_ _ | refine Ext.gr ?_ _ | refine Ext.set ?_ (by simp) _ | (refine Ext.trans' ?_ (by assumption)))))) (HL.out.ext (by exact (by repeat (first | exact Below.refl _ _ | refine Ext.al ?_ _ | refine Ext.dr ?_ | refine Ext.drN ?_ _ | refine Ext.gr ?_ _ | refine Ext.set ?_ (by simp) _ | (refine Ext.trans' ?_ (by assumption))))))) fun g1 hgr => ?_
    clear hgr
    go_wp2_with fail
    refine callW (W0 := W0) (g := g1) (by exact (by repeat (first | exact Below.refl _ _ | refine Ext.al ?_ _ | refine Ext.dr ?_ | refine Ext.drN ?_ _ | refine Ext.gr ?_ _ | refine Ext.set ?_ (by simp) _ | (refine Ext.trans' ?_ (by assumption))))) (C1.out _ (HS.out.ext (by exact (by repeat (first | exact Below.refl _ _ | refine Ext.al ?_ _ | refine Ext.dr ?_ | refine Ext.drN ?_ _ | refine Ext.gr ?_ _ | refine Ext.set ?_ (by simp) _ | (refine Ext.trans' ?_ (by assumption)))))) (HL.out.ext (by exact (by repeat (first | exact Below.refl _ _ | refine Ext.al ?_ _ | refine Ext.dr ?_ | refine Ext.drN ?_ _ | refine Ext.gr ?_ _ | refine Ext.set ?_ (by simp) _ | (refine Ext.trans' ?_ (by assumption))))))) fun g2 hgr => ?_
    clear hgr
    go_wp2_with fail
    refine bodyPost_ret (v := .tuple #[.slice none 0 0, .int .i64 0, .int .i64 er]) (by simp [results, Try.results21, go_sem]) rfl ?_
    exact turn_bad _ (by unfold turnErr; rw [if_pos (by rw [← HER.out]; exact HST.out), HER.out]) HST.out (HW.out.trans' (grow_below W0 _))

  · obtain ⟨vv, hs⟩ := stErr_ok (HER.out.symm.trans hst)
    have hn5 := vv.n5
    have HST := Lib.hid (HER.out.symm.trans hst)
    have VV := Lib.hid vv
    have HIS := Lib.hid hs
    subst hst
    clear vv hs
    go_wp2_with fail
    refine callW (W0 := W0) (g := ⟨W0, Below.refl _ _⟩) (by exact (by repeat (first | exact Below.refl _ _ | refine Ext.al ?_ _ | refine Ext.dr ?_ | refine Ext.drN ?_ _ | refine Ext.gr ?_ _ | refine Ext.set ?_ (by simp) _ | (refine Ext.trans' ?_ (by assumption))))) (C1.out _ (HS.out.ext (by exact (by repeat (first | exact Below.refl _ _ | refine Ext.al ?_ _ | refine Ext.dr ?_ | refine Ext.drN ?_ _ | refine Ext.gr ?_ _ | refine Ext.set ?_ (by simp) _ | (refine Ext.trans' ?_ (by assumption)))))) (HL.out.ext (by exact (by repeat (first | exact Below.refl _ _ | refine Ext.al ?_ _ | refine Ext.dr ?_ | refine Ext.drN ?_ _ | refine Ext.gr ?_ _ | refine Ext.set ?_ (by simp) _ | (refine Ext.trans' ?_ (by assumption))))))) fun g3 hgr => ?_
    clear hgr
    go_wp2_with fail
    go_loopw [11] (fun i W => ∃ (k : Nat) (a : Int), k ≤ ps.length ∧ i = .int .i64 k ∧ 0 ≤ a ∧ (k = 0 → a = 0) ∧ (∀ j, k = j + 1 → a = gt ps j + 1) ∧ incP ks.length 0 ps = incP ks.length a (ps.drop k) ∧ Ext W0 W) (fun i _ => ps.length - (intOf i).toNat)
    case atStart => exact ⟨0, 0, by omega, rfl, by omega, fun _ => rfl, fun j h => by omega, by simp, grow_below W0 _⟩
    case round =>
      obtain ⟨k, a, hk, rfl, ha, ha0, haj, hin, hE⟩ := hrel
      have k1 := cell_ext hE k0
      have hz1 := hE.size
      have hz2 : w.heap.size < wr.heap.size := by omega
      have HE := Lib.hid hE
      have HSr := Lib.hid (HS.out.ext hE)
      by_cases hlt : k < ps.length
      · obtain ⟨b, off, rfl, hbz, HPC⟩ := (HP.out.ext hE).at_all (by omega)
        have d0 := HPC wr (Below.refl _ _) k hlt
        have dj : ∀ j, k = j + 1 → wr.cell? ⟨b, off + j, none⟩ = some (.int .i64 (gt ps j)) := fun j hj => HPC wr (Below.refl _ _) j (by omega)
        have hki : (k : Int) < (ps.length : Int) := by omega
        rw [incP_drop hlt] at hin
        obtain ⟨x, hx⟩ : ∃ x, x = gt ps k := ⟨_, rfl⟩
        rw [← hx] at d0 hin
        have cw := fun W hs => isWindow_any ks x (.slice sa ks.length cap) W hs
        have HX := Lib.hid hx
        have HIN := Lib.hid hin
        clear hE HPC hx hin
        cases hir : inR 0 ((ks.length : Int) - 1) x
        · simp only [hir] at cw
          have CW := Lib.hid cw
          have hbad : incP ks.length 0 ps = false := by
            rw [HIN.out]
            have : inR a ((ks.length : Int) - 1) x = false := by
              cases h : inR a ((ks.length : Int) - 1) x with
              | false => rfl
              | true =>
                have h1 := inR_iff.1 h
                rw [inR_iff.2 ⟨by omega, h1.2⟩] at hir
                cases hir
            rw [this]; rfl
          have HBAD := Lib.hid hbad
          clear cw hir dj hbad haj ha0
          go_upto_region 6 with (fail)
          refine wp_region_grow (by kernel_rfl) (by kernel_rfl) ?_
          repeat (first | go_big_quiet_step ((go_at_call 51; exact grow_call (CW.out _ (HSr.out.ext (grow_below _ _))))) | quiet_step ((go_at_call 51; exact grow_call (CW.out _ (HSr.out.ext (grow_below _ _))))))
          refine wpQuiet_nil ?_
          rintro _ ⟨g, rfl⟩
          go_wp2_with fail
          refine bodyPost_ret (v := .tuple #[.slice none 0 0, .int .i64 0, .int .i64 2]) (by simp [results, Try.results21, go_sem]) rfl ?_
          exact turn_bad _ (by unfold turnErr; rw [if_neg (fun h => h HST.out), HBAD.out, if_neg (by simp)]) (by decide) (HW.out.trans' (HE.out.trans' (grow_below _ _)))
        · simp only [hir] at cw
          have CW := Lib.hid cw
          have hxr := inR_iff.1 hir
          clear cw hir
          rcases Nat.eq_zero_or_pos k with hk0 | hk0
          · have ha1 := ha0 hk0
            subst ha1
            have hd : decide ((k : Int) > 0) = false := decide_eq_false (by omega)
            have hd2 : decide (0 < (k : Int)) = false := decide_eq_false (by omega)
            have hd4 : decide (0 < k) = false := decide_eq_false (by omega)
            have HK0 := Lib.hid hk0
            clear dj haj ha0 hk0
            go_upto_region 6 with (fail)
            refine wp_region_grow (by kernel_rfl) (by kernel_rfl) ?_
            repeat (first | go_big_quiet_step ((go_at_call 51; exact grow_call (CW.out _ (HSr.out.ext (grow_below _ _))))) | quiet_step ((go_at_call 51; exact grow_call (CW.out _ (HSr.out.ext (grow_below _ _))))))
            refine wpQuiet_nil ?_
            rintro _ ⟨g, rfl⟩
            go_wp2_with fail
            go_roundw
            case rel =>
              refine ⟨k + 1, x + 1, by omega, by go_num, by omega, fun h => by omega, fun i h => ?_, by rw [HIN.out, inR_iff.2 hxr, Bool.true_and], HE.out.trans' (grow_below _ _)⟩
              obtain rfl : i = k := by omega
              rw [HX.out]
            case measure => simp [intOf]; omega
          · obtain ⟨j, rfl⟩ : ∃ j, k = j + 1 := ⟨k - 1, by omega⟩
            have haj1 := haj j rfl
            have d1 := dj j rfl
            obtain ⟨y, hy⟩ : ∃ y, y = gt ps j := ⟨_, rfl⟩
            rw [← hy] at d1 haj1
            have hd : decide ((((j + 1 : Nat) : Int)) > 0) = true := decide_eq_true (by omega)
            have hd2 : decide (0 < ((j : Int) + 1)) = true := decide_eq_true (by omega)
            have hji : (j : Int) < (ps.length : Int) := by omega
            have hji1 : (j : Int) + 1 < (ps.length : Int) := by omega
            have hjs : ((j : Int) + 1 - 1) = (j : Int) := by omega
            have hlj : j < ps.length := by omega
            clear dj haj ha0 hy
            by_cases hxy : x ≤ y
            · have hd3 : decide (x ≤ y) = true := decide_eq_true hxy
              have hbad : incP ks.length 0 ps = false := by
                rw [HIN.out]
                have : inR a ((ks.length : Int) - 1) x = false := by
                  cases h : inR a ((ks.length : Int) - 1) x with
                  | false => rfl
                  | true => have h1 := inR_iff.1 h; omega
                rw [this]; rfl
              have HBAD := Lib.hid hbad
              clear hbad hxy haj1
              go_upto_region 6 with (fail)
              refine wp_region_grow (by kernel_rfl) (by kernel_rfl) ?_
              repeat (first | go_big_quiet_step ((go_at_call 51; exact grow_call (CW.out _ (HSr.out.ext (grow_below _ _))))) | quiet_step ((go_at_call 51; exact grow_call (CW.out _ (HSr.out.ext (grow_below _ _))))))
              refine wpQuiet_nil ?_
              rintro _ ⟨g, rfl⟩
              go_wp2_with fail
              refine bodyPost_ret (v := .tuple #[.slice none 0 0, .int .i64 0, .int .i64 2]) (by simp [results, Try.results21, go_sem]) rfl ?_
              exact turn_bad _ (by unfold turnErr; rw [if_neg (fun h => h HST.out), HBAD.out, if_neg (by simp)]) (by decide) (HW.out.trans' (HE.out.trans' (grow_below _ _)))
            · have hd3 : decide (x ≤ y) = false := decide_eq_false hxy
              have HXA := Lib.hid (show a ≤ x by omega)
              clear hxy haj1
              go_upto_region 6 with (fail)
              refine wp_region_grow (by kernel_rfl) (by kernel_rfl) ?_
              repeat (first | go_big_quiet_step ((go_at_call 51; exact grow_call (CW.out _ (HSr.out.ext (grow_below _ _))))) | quiet_step ((go_at_call 51; exact grow_call (CW.out _ (HSr.out.ext (grow_below _ _))))))
              refine wpQuiet_nil ?_
              rintro _ ⟨g, rfl⟩
              go_wp2_with fail
              go_roundw
              case rel =>
                refine ⟨j + 1 + 1, x + 1, by omega, by go_num, by omega, fun h => by omega, fun i h => ?_, by rw [HIN.out, inR_iff.2 ⟨HXA.out, hxr.2⟩, Bool.true_and], HE.out.trans' (grow_below _ _)⟩
                obtain rfl : i = j + 1 := by omega
                rw [HX.out]
              case measure => simp [intOf]; omega
      · have hkl : k = ps.length := by omega
        have hfin : incP ks.length 0 ps = true := by rw [hin, hkl, List.drop_length]; rfl
        have hki : ¬ ((k : Int) < (ps.length : Int)) := by omega
        obtain ⟨hpw, hpb⟩ := incP_spec hfin
        have HIN := Lib.hid hfin
        have HPW := Lib.hid hpw
        have HPB := Lib.hid hpb
        have HLr := Lib.hid (HL.out.ext hE)
        have HPr := Lib.hid (HP.out.ext hE)
        have HR := Lib.hid (HW.out.trans' hE)
        clear hin hfin hkl hpw hpb ha0 haj hE ha
        have cw := fun W hs => isWindow_any ks v (.slice sa ks.length cap) W hs



        go_wp2_with fail
        cases hir : inR 0 ((ks.length : Int) - 1) v
        · simp only [hir] at cw
          have CW := Lib.hid cw
          have HIR := Lib.hid hir
          clear cw hir

          refine callW (W0 := wr) (g := ⟨wr, Below.refl _ _⟩) (by exact (by repeat (first | exact Below.refl _ _ | refine Ext.al ?_ _ | refine Ext.dr ?_ | refine Ext.drN ?_ _ | refine Ext.gr ?_ _ | refine Ext.set ?_ (by simp) _ | (refine Ext.trans' ?_ (by assumption))))) (CW.out _ (HSr.out.ext (by exact (by repeat (first | exact Below.refl _ _ | refine Ext.al ?_ _ | refine Ext.dr ?_ | refine Ext.drN ?_ _ | refine Ext.gr ?_ _ | refine Ext.set ?_ (by simp) _ | (refine Ext.trans' ?_ (by assumption))))))) fun g1 hgr => ?_
          clear hgr
          go_wp2_with fail
          refine bodyPost_ret (v := .tuple #[.slice none 0 0, .int .i64 0, .int .i64 2]) (by simp [results, Try.results21, go_sem]) rfl ?_
          exact turn_bad _ (by unfold turnErr; rw [if_neg (fun h => h HST.out), HIR.out, if_neg (by simp)]) (by decide) (HR.out.trans' (grow_below wr _))

        · simp only [hir] at cw
          have hxr := inR_iff.1 hir
          have CW := Lib.hid cw
          have HIR := Lib.hid hir
          clear cw hir
          obtain ⟨V, rfl⟩ : ∃ V : Nat, v = (V : Int) := ⟨v.toNat, by omega⟩
          have hVk : V < ks.length := by omega
          refine callW (W0 := wr) (g := ⟨wr, Below.refl _ _⟩) (by exact (by repeat (first | exact Below.refl _ _ | refine Ext.al ?_ _ | refine Ext.dr ?_ | refine Ext.drN ?_ _ | refine Ext.gr ?_ _ | refine Ext.set ?_ (by simp) _ | (refine Ext.trans' ?_ (by assumption))))) (CW.out _ (HSr.out.ext (by exact (by repeat (first | exact Below.refl _ _ | refine Ext.al ?_ _ | refine Ext.dr ?_ | refine Ext.drN ?_ _ | refine Ext.gr ?_ _ | refine Ext.set ?_ (by simp) _ | (refine Ext.trans' ?_ (by assumption))))))) fun g2 hgr => ?_
          clear hgr
          go_wp2_with fail
          refine (pulledR_any ks s ps _ _ _ _ (HSr.out.ext (by exact (by repeat (first | exact Below.refl _ _ | refine Ext.al ?_ _ | refine Ext.dr ?_ | refine Ext.drN ?_ _ | refine Ext.gr ?_ _ | refine Ext.set ?_ (by simp) _ | (refine Ext.trans' ?_ (by assumption)))))) (HLr.out.ext (by exact (by repeat (first | exact Below.refl _ _ | refine Ext.al ?_ _ | refine Ext.dr ?_ | refine Ext.drN ?_ _ | refine Ext.gr ?_ _ | refine Ext.set ?_ (by simp) _ | (refine Ext.trans' ?_ (by assumption)))))) (HPr.out.ext (by exact (by repeat (first | exact Below.refl _ _ | refine Ext.al ?_ _ | refine Ext.dr ?_ | refine Ext.drN ?_ _ | refine Ext.gr ?_ _ | refine Ext.set ?_ (by simp) _ | (refine Ext.trans' ?_ (by assumption)))))) VV.out.n1 hn5 (isSt_len HIS.out) (st_bd VV.out HIS.out) HPW.out HPB.out hpl).mono ?_
          rintro e W2 ⟨r, rfl, hE2, hr⟩
          obtain ⟨xa, xc, rfl, x1, x2, -⟩ := hr.spec
          have hEx := Ext.trans' (show Ext wr _ from (by repeat (first | exact Below.refl _ _ | refine Ext.al ?_ _ | refine Ext.dr ?_ | refine Ext.drN ?_ _ | refine Ext.gr ?_ _ | refine Ext.set ?_ (by simp) _ | (refine Ext.trans' ?_ (by assumption))))) hE2
          have k2 := cell_ext hEx k1
          have hz3 : w.heap.size < W2.heap.size := World.block_lt_of_cell? _ _ k2
          have HR2 := Lib.hid (HR.out.trans' hEx)
          have HX := Lib.hid hr
          clear hE2 hEx hr
          obtain ⟨p, hp⟩ : ∃ p, p = fun i : Nat => ps.contains (i : Int) := ⟨_, rfl⟩
          rw [← hp] at HX x1 ⊢
          have hte : turnErr ks s ps V = if fullP p ks s then 17 else 0 := by
            unfold turnErr
            rw [if_neg (fun h => h HST.out), if_pos ⟨HIN.out, HIR.out⟩, hp]
          have htl : turnErr ks s ps V = 0 → turnL ks s ps V = visit (upP p s) V := fun h => by unfold turnL; rw [if_pos h, hp]; rfl
          have htn : turnErr ks s ps V = 0 → turnN ks s ps V = gt (upP p s) V := fun h => by unfold turnN; rw [if_pos h, hp]; rfl
          have hup := upP_len p s
          have hsl := isSt_len HIS.out
          have HTE := Lib.hid hte
          have HTL := Lib.hid htl
          have HTN := Lib.hid htn
          clear hte htl htn hp
          cases hf : fullP p ks s
          · rw [hf] at HX HTE x1
            simp only [Bool.false_eq_true, if_false] at HX HTE x1 ⊢
            have hup2 : (upP p s).length = ks.length := by rw [hup, hsl]
            have hVx : V < (upP p s).length := by omega
            have hX5' : (upP p s).length ≤ 1000 := by omega
            clear hf hup hsl hup2
            go_upto_region 13 with (fail)
            obtain ⟨X, hX⟩ : ∃ X, X = upP p s := ⟨_, rfl⟩
            rw [← hX] at HX HTL HTN hVx x1 hX5' ⊢
            clear hX
            obtain ⟨xb, xo, rfl, hxz, HXC⟩ := HX.out.at_all (by omega)
            have hVi : (V : Int) < (X.length : Int) := by omega
            have d0 := HXC W2 (Below.refl _ _) V hVx
            have hX5 : X.length ≤ 1000 := hX5'
            clear HXC
            refine wp_region_rove (W2.heap.size) (Nat.le_refl _)
              [sqV (.slice (some ⟨xb, xo, none⟩) X.length xc),
               sqV (.int .i64 V),
               sqW (fun v W => IsInts W .i64 v (visit X V)) (fun _ _ _ h e => IsInts.ext e h),
               sqV (.slice (some ⟨xb, xo, none⟩) X.length xc),
               sqV (.int .i64 V),
               sqV (.pointer (some ⟨xb, xo + V, none⟩)),
               sqV (.int .i64 (gt X V)),
               sqW (fun v W => IsInts W .i64 v (visit X V)) (fun _ _ _ h e => IsInts.ext e h),
               sqV (.int .i64 (gt X V)),
               sqV (.int .i64 0)]
              [true, true, false, true, true, true, true, false, true, true] [false, false, false, false, false, false, false, false, false, false] [true, true, true, true, true, true, true, true, true, true] [true, true, true, true, true, true, true, true, true, true]
              (by kernel_rfl) (by kernel_rfl) (by decide +kernel) (by decide +kernel) (by decide +kernel) rfl ⟨rfl, rfl⟩ ⟨?s0, ?s1, ?s2, ?s3, ?s4, ?s5, ?s6, ?s7, ?s8, ?s9, trivial⟩ [some 63, some 64, some 65, some 66, some 67, some 68, some 69, some 8, some 9, some 10] rfl rfl ?send
            case s0 =>
              intro val ρ W hE hz hd hA hx
              have o0 : ρ (.tmp 12) = .slice (some ⟨xb, xo, none⟩) X.length xc := hA.old 12 (by decide)
              clear hd
              exact runq_val (W' := W) (by simp [execOp, o0, go_sem]) (Below.refl _ _) rfl
            case s1 =>
              intro val ρ W hE hz hd hA hx
              have o0 : ρ (.tmp 3) = .int .i64 V := hA.old 3 (by decide)
              clear hd
              exact runq_val (W' := W) (by simp [execOp, o0, go_sem]) (Below.refl _ _) rfl
            case s3 =>
              intro val ρ W hE hz hd hA hx
              have o0 : ρ (.tmp 12) = .slice (some ⟨xb, xo, none⟩) X.length xc := hA.old 12 (by decide)
              clear hd
              exact runq_val (W' := W) (by simp [execOp, o0, go_sem]) (Below.refl _ _) rfl
            case s4 =>
              intro val ρ W hE hz hd hA hx
              have o0 : ρ (.tmp 3) = .int .i64 V := hA.old 3 (by decide)
              clear hd
              exact runq_val (W' := W) (by simp [execOp, o0, go_sem]) (Below.refl _ _) rfl
            case s5 =>
              intro val ρ W hE hz hd hA hx
              have d3 : ρ (.tmp 66) = .slice (some ⟨xb, xo, none⟩) X.length xc := (hA.dep 3 (by decide) 66 rfl).trans (hd 3 (by decide))
              have d4 : ρ (.tmp 67) = .int .i64 V := (hA.dep 4 (by decide) 67 rfl).trans (hd 4 (by decide))
              clear hd
              exact runq_val (W' := W) (by simp [execOp, d3, d4, hVi, go_sem]) (Below.refl _ _) rfl
            case s6 =>
              intro val ρ W hE hz hd hA hx
              have d5 : ρ (.tmp 68) = .pointer (some ⟨xb, xo + V, none⟩) := (hA.dep 5 (by decide) 68 rfl).trans (hd 5 (by decide))
              have f_d0 := cell_below hE (by simp only; omega) d0
              clear hd
              exact runq_val (W' := W) (by simp [execOp, d5, f_d0, go_sem]) (Below.refl _ _) rfl
            case s8 =>
              intro val ρ W hE hz hd hA hx
              have d6 : ρ (.tmp 69) = .int .i64 (gt X V) := (hA.dep 6 (by decide) 69 rfl).trans (hd 6 (by decide))
              clear hd
              exact runq_val (W' := W) (by simp [execOp, d6, go_sem]) (Below.refl _ _) rfl
            case s9 =>
              intro val ρ W hE hz hd hA hx
              clear hd
              exact runq_val (W' := W) (by simp [execOp, hA.const, go_sem]) (Below.refl _ _) rfl
            case s2 =>
              intro val ρ W hE hz hd hA hx
              have d0 : ρ (.tmp 63) = .slice (some ⟨xb, xo, none⟩) X.length xc := (hA.dep 0 (by decide) 63 rfl).trans (hd 0 (by decide))
              have d1 : ρ (.tmp 64) = .int .i64 V := (hA.dep 1 (by decide) 64 rfl).trans (hd 1 (by decide))
              clear hd
              refine runq_call 50 _ _ rfl #[.slice (some ⟨xb, xo, none⟩) X.length xc, .int .i64 V] (hA.func _) (by simp [d0, d1]) (fun args W => Try.call50 args W) ((visitedR_any X V _ W (HX.out.ext hE) hVx hX5).mono ?_)
              rintro e w' ⟨v, rfl, hb, hi⟩
              exact ⟨_, rfl, hb, hi⟩
            case s7 =>
              intro val ρ W hE hz hd hA hx
              have q2 : IsInts W .i64 (val 2) (visit X V) := hd 2 (by decide)
              have d2 : ρ (.tmp 65) = val 2 := hA.dep 2 (by decide) 65 rfl
              exact runq_val (W' := W) (v := val 2) (by simp [execOp, d2, go_sem]) (Below.refl _ _) q2
            case send =>
              intro val WW hE hzz hv
              obtain ⟨-, -, -, -, -, -, -, q7, q8, q9, -⟩ := hv
              have q8' : val 8 = .int .i64 (gt X V) := q8
              have q9' : val 9 = .int .i64 0 := q9
              replace q7 : IsInts WW .i64 (val 7) (visit X V) := q7
              obtain ⟨X7, hX7⟩ : ∃ X7, X7 = val 7 := ⟨_, rfl⟩
              rw [← hX7] at q7
              simp only [putD, q8', q9', ← hX7]
              go_frame
              have HE2 := Lib.hid (HR2.out.trans' hE)
              clear q8 q8' q9 q9' hX7 hzz hE
              obtain ⟨ya, yc, rfl, -, -, -⟩ := q7.spec
              have HY := Lib.hid q7
              clear q7
              go_wp2_with fail
              refine bodyPost_ret (by simp [results, Try.results21, go_sem]; rfl) rfl ?_
              exact ⟨_, by rw [HTE.out, HTN.out HTE.out], HE2.out, by rw [HTL.out HTE.out]; exact HY.out⟩
          · rw [hf] at HX HTE x1
            simp only [if_true] at HX HTE x1 ⊢
            clear hf hup hsl
            go_wp2_with fail
            refine bodyPost_ret (v := .tuple #[.slice none 0 0, .int .i64 0, .int .i64 17]) (by simp [results, Try.results21, go_sem]) rfl ?_
            exact turn_bad _ HTE.out (by decide) HR2.out
end Go.Proofs.Ytndgaklcnhoddaa
