/-
  The statement TurnDooms holds: which steps doom a state, and whether some do, as the program says it, is what the definitions say, or the error; steps that are returned do; for every hall, state and steps that are handed in. No condition.
-/
import Derived.Test.YtndgaklcnhoddaaWide
import Derived.Test.YtndgaklcnhoddaaRefN
import Derived.Test.YtndgaklcnhoddaaRb
import Derived.Test.YtndgaklcnhoddaaWf
namespace Go.Proofs.Ytndgaklcnhoddaa
open Go.RowKit Go.Shelf
set_option maxRecDepth 100000 in
set_option maxHeartbeats 4000000 in
theorem turnDooms_any (ks : List Int) (kv : Value) (lv : Value) (s : List Int) (tv : Value) (l : List (List Int × Int)) (w : World) (hv : IsInts w .i64 kv ks) (hl : IsInts w .i64 lv s) (ht : IsStps w tv l) :
    Calls Try.prog 6 #[.agg #[kv], lv, tv] w fun e W => e = .returned (.bool true) ∧ Ext w W := by
  obtain ⟨sa, cap, rfl, h1, h2, -⟩ := hv.spec
  obtain ⟨la, lcap, rfl, h3, h4, -⟩ := hl.spec
  obtain ⟨ta, tcap, rfl, h5, h6⟩ := ht.spec
  have HV := Lib.hid hv
  have HL0 := Lib.hid hl
  have HT0 := Lib.hid ht
  clear hv hl ht
  go_enter Try.func6, Try.ntmps6
  go_upto_region 1 with (fail)
  obtain ⟨W0, hW0⟩ : ∃ W0, W0 = w.alloc (.cells #[.slice sa ks.length cap] 24) := ⟨_, rfl⟩
  have hE : Ext w W0 := by rw [hW0]; exact (by repeat (first | exact Below.refl _ _ | refine Ext.al ?_ _ | refine Ext.dr ?_ | refine Ext.drN ?_ _ | refine Ext.gr ?_ _ | refine Ext.set ?_ (by simp) _ | (refine Ext.trans' ?_ (by assumption))))
  have k0 : W0.cell? ⟨w.heap.size, 0, none⟩ = some (.slice sa ks.length cap) := by rw [hW0]; simp [go_sem]
  have hz : w.heap.size < W0.heap.size := World.block_lt_of_cell? _ _ k0
  have HS := Lib.hid (HV.out.ext hE)
  have HW := Lib.hid hE
  rw [← hW0]
  clear hW0 HV
  have HL := Lib.hid (HL0.out.ext hE)
  have HT := Lib.hid (HT0.out.ext hE)
  clear hE HL0 HT0



  go_wp2_with fail
  refine callW (W0 := W0) (g := ⟨W0, Below.refl _ _⟩) (by exact (by repeat (first | exact Below.refl _ _ | refine Ext.al ?_ _ | refine Ext.dr ?_ | refine Ext.drN ?_ _ | refine Ext.gr ?_ _ | refine Ext.set ?_ (by simp) _ | (refine Ext.trans' ?_ (by assumption))))) (greatL_any ks _ _ (HS.out.ext (by exact (by repeat (first | exact Below.refl _ _ | refine Ext.al ?_ _ | refine Ext.dr ?_ | refine Ext.drN ?_ _ | refine Ext.gr ?_ _ | refine Ext.set ?_ (by simp) _ | (refine Ext.trans' ?_ (by assumption))))))) fun g1 hgr => ?_
  clear hgr
  by_cases hg : 10 < ks.length
  · rw [decide_eq_true hg]
    clear hg

    go_wp2_with fail
    refine callW (W0 := W0) (g := g1) (by exact (by repeat (first | exact Below.refl _ _ | refine Ext.al ?_ _ | refine Ext.dr ?_ | refine Ext.drN ?_ _ | refine Ext.gr ?_ _ | refine Ext.set ?_ (by simp) _ | (refine Ext.trans' ?_ (by assumption))))) (works_any _) fun g2 hgr => ?_
    clear hgr
    go_wp2_with fail
    go_ret
    exact ⟨rfl, HW.out.trans' (grow_below W0 g2)⟩

  rw [decide_eq_false hg]
  clear hg
  go_wp2_with fail
  refine callW (W0 := W0) (g := g1) (by exact (by repeat (first | exact Below.refl _ _ | refine Ext.al ?_ _ | refine Ext.dr ?_ | refine Ext.drN ?_ _ | refine Ext.gr ?_ _ | refine Ext.set ?_ (by simp) _ | (refine Ext.trans' ?_ (by assumption))))) (wideL_any ks 400 _ _ (HS.out.ext (by exact (by repeat (first | exact Below.refl _ _ | refine Ext.al ?_ _ | refine Ext.dr ?_ | refine Ext.drN ?_ _ | refine Ext.gr ?_ _ | refine Ext.set ?_ (by simp) _ | (refine Ext.trans' ?_ (by assumption))))))) fun g3 hgr => ?_
  clear hgr
  cases hwd : wideB ks 400
  rotate_left
  · clear hwd

    go_wp2_with fail
    refine callW (W0 := W0) (g := g3) (by exact (by repeat (first | exact Below.refl _ _ | refine Ext.al ?_ _ | refine Ext.dr ?_ | refine Ext.drN ?_ _ | refine Ext.gr ?_ _ | refine Ext.set ?_ (by simp) _ | (refine Ext.trans' ?_ (by assumption))))) (works_any _) fun g4 hgr => ?_
    clear hgr
    go_wp2_with fail
    go_ret
    exact ⟨rfl, HW.out.trans' (grow_below W0 g4)⟩

  clear hwd
  by_cases hl20 : 20 < s.length
  · have hd : decide ((20 : Int) < (s.length : Int)) = true := decide_eq_true (by omega)
    clear hl20

    go_wp2_with fail
    refine callW (W0 := W0) (g := g3) (by exact (by repeat (first | exact Below.refl _ _ | refine Ext.al ?_ _ | refine Ext.dr ?_ | refine Ext.drN ?_ _ | refine Ext.gr ?_ _ | refine Ext.set ?_ (by simp) _ | (refine Ext.trans' ?_ (by assumption))))) (works_any _) fun g5 hgr => ?_
    clear hgr
    go_wp2_with fail
    go_ret
    exact ⟨rfl, HW.out.trans' (grow_below W0 g5)⟩

  have hd : decide ((20 : Int) < (s.length : Int)) = false := decide_eq_false (by omega)
  clear hl20
  by_cases hl40 : 40 < l.length
  · have hd : decide ((40 : Int) < (l.length : Int)) = true := decide_eq_true (by omega)
    clear hl40

    go_wp2_with fail
    refine callW (W0 := W0) (g := g3) (by exact (by repeat (first | exact Below.refl _ _ | refine Ext.al ?_ _ | refine Ext.dr ?_ | refine Ext.drN ?_ _ | refine Ext.gr ?_ _ | refine Ext.set ?_ (by simp) _ | (refine Ext.trans' ?_ (by assumption))))) (works_any _) fun g6 hgr => ?_
    clear hgr
    go_wp2_with fail
    go_ret
    exact ⟨rfl, HW.out.trans' (grow_below W0 g6)⟩

  have hd2 : decide ((40 : Int) < (l.length : Int)) = false := decide_eq_false (by omega)
  have hl40' : l.length ≤ 40 := by omega
  clear hl40
  go_upto_region 3 with (fail)
  obtain ⟨U, hU⟩ : ∃ zz9, zz9 = (grow W0 g3) := ⟨_, rfl⟩
  have eU : Ext W0 U := by rw [hU]; exact (by repeat (first | exact Below.refl _ _ | refine Ext.al ?_ _ | refine Ext.dr ?_ | refine Ext.drN ?_ _ | refine Ext.gr ?_ _ | refine Ext.set ?_ (by simp) _ | (refine Ext.trans' ?_ (by assumption))))
  replace k0 := cell_ext eU k0
  replace HS := Lib.hid (HS.out.ext eU)
  replace HL := Lib.hid (HL.out.ext eU)
  replace HT := Lib.hid (HT.out.ext eU)
  replace HW := Lib.hid (HW.out.trans' eU)
  rw [← hU]
  replace hz := World.block_lt_of_cell? _ _ k0
  clear hU eU
  simp only at hz
  go_wp2_with fail
  go_loopw [7] (fun i W => ∃ k : Nat, k ≤ l.length ∧ i = .int .i64 k ∧ Ext U W) (fun i _ => l.length - (intOf i).toNat)
  case atStart => exact ⟨0, by omega, rfl, Below.refl _ _⟩
  case round =>
    obtain ⟨k, hk, rfl, hE⟩ := hrel
    have HE := Lib.hid hE
    have k1 := cell_ext hE k0
    have hz1 := World.block_lt_of_cell? _ _ k1
    simp only at hz1
    by_cases hlt : k < l.length
    · have hki : (k : Int) < (l.length : Int) := by omega
      obtain ⟨b, off, rfl, HC⟩ := HT.out.at_all (by omega)
      obtain ⟨xa, xc, hxc⟩ := HC k hlt
      obtain ⟨hqi, d0, d1⟩ := hxc wr hE
      have hbz := World.block_lt_of_cell? _ _ d0
      simp only at hbz
      obtain ⟨n, hn⟩ : ∃ n, n = (l[k]).1.length := ⟨_, rfl⟩
      rw [← hn] at d0
      clear HC hxc hqi d1 hn hE
      by_cases h20 : 20 < n
      · have hd9 : decide ((20 : Int) < (n : Int)) = true := decide_eq_true (by omega)
        clear h20
        go_wp2_with fail
        refine (works_any _).mono ?_
        rintro e W3 ⟨rfl, hE3⟩
        have HE3 := Lib.hid (HW.out.trans' (HE.out.trans' hE3))
        clear hE3
        go_wp2_with fail
        go_ret
        exact ⟨rfl, HE3.out⟩
      · have hd9 : decide ((20 : Int) < (n : Int)) = false := decide_eq_false (by omega)
        clear h20
        go_wp2_with fail
        go_roundw
        case rel => exact ⟨k + 1, by omega, by go_num, HE.out⟩
        case measure => simp [intOf]; omega
    · have hki : ¬ ((k : Int) < (l.length : Int)) := by omega
      have HSr := Lib.hid (HS.out.ext hE)
      have HLr := Lib.hid (HL.out.ext hE)
      have HTr := Lib.hid (HT.out.ext hE)
      have HR := Lib.hid (HW.out.trans' hE)
      clear hE
      obtain ⟨Y, hY⟩ : ∃ Y, Y = wr := ⟨_, rfl⟩
      subst hY





      go_wp2_with fail
      refine callWR (W0 := Y) (g := ⟨Y, Below.refl _ _⟩) (by exact (by repeat (first | exact Below.refl _ _ | refine Ext.al ?_ _ | refine Ext.dr ?_ | refine Ext.drN ?_ _ | refine Ext.gr ?_ _ | refine Ext.set ?_ (by simp) _ | (refine Ext.trans' ?_ (by assumption))))) (doomF_any ks s _ _ _ (HSr.out.ext (by exact (by repeat (first | exact Below.refl _ _ | refine Ext.al ?_ _ | refine Ext.dr ?_ | refine Ext.drN ?_ _ | refine Ext.gr ?_ _ | refine Ext.set ?_ (by simp) _ | (refine Ext.trans' ?_ (by assumption)))))) (HLr.out.ext (by exact (by repeat (first | exact Below.refl _ _ | refine Ext.al ?_ _ | refine Ext.dr ?_ | refine Ext.drN ?_ _ | refine Ext.gr ?_ _ | refine Ext.set ?_ (by simp) _ | (refine Ext.trans' ?_ (by assumption))))))) (fun _ _ ⟨_, _, _, r, _⟩ => r) fun _ g1 hgr hr => ?_
      obtain ⟨x, dl, rfl, -, hI, hbad, hok⟩ := hr
      clear hgr
      obtain ⟨a1, c1, rfl, -, -⟩ := hI.spec
      have HI := Lib.hid hI
      have HBAD := Lib.hid hbad
      have HOK := Lib.hid hok
      clear hI hbad hok

      obtain ⟨er, her⟩ : ∃ er, er = doomRErr ks s := ⟨_, rfl⟩
      have cf := fun W h1 h2 => doomErrR_any ks s (.slice sa ks.length cap) (.slice la s.length lcap) W h1 h2
      rw [← her]
      rw [← her] at cf HBAD HOK
      have CF := Lib.hid cf
      clear cf her
      go_wp2_with fail
      refine callW (W0 := Y) (g := g1) (by exact (by repeat (first | exact Below.refl _ _ | refine Ext.al ?_ _ | refine Ext.dr ?_ | refine Ext.drN ?_ _ | refine Ext.gr ?_ _ | refine Ext.set ?_ (by simp) _ | (refine Ext.trans' ?_ (by assumption))))) (CF.out _ (HSr.out.ext (by exact (by repeat (first | exact Below.refl _ _ | refine Ext.al ?_ _ | refine Ext.dr ?_ | refine Ext.drN ?_ _ | refine Ext.gr ?_ _ | refine Ext.set ?_ (by simp) _ | (refine Ext.trans' ?_ (by assumption)))))) (HLr.out.ext (by exact (by repeat (first | exact Below.refl _ _ | refine Ext.al ?_ _ | refine Ext.dr ?_ | refine Ext.drN ?_ _ | refine Ext.gr ?_ _ | refine Ext.set ?_ (by simp) _ | (refine Ext.trans' ?_ (by assumption))))))) fun g2 hgr => ?_
      replace HI := Lib.hid (HI.out.ext hgr)
      clear hgr
      go_upto_region 10 with (fail)
      obtain ⟨Z, hZ⟩ : ∃ zz9, zz9 = (grow Y g2) := ⟨_, rfl⟩
      have eZ : Ext Y Z := by rw [hZ]; exact (by repeat (first | exact Below.refl _ _ | refine Ext.al ?_ _ | refine Ext.dr ?_ | refine Ext.drN ?_ _ | refine Ext.gr ?_ _ | refine Ext.set ?_ (by simp) _ | (refine Ext.trans' ?_ (by assumption))))
      have eZc : Ext (grow Y g2) Z := by rw [hZ]; exact (by repeat (first | exact Below.refl _ _ | refine Ext.al ?_ _ | refine Ext.dr ?_ | refine Ext.drN ?_ _ | refine Ext.gr ?_ _ | refine Ext.set ?_ (by simp) _ | (refine Ext.trans' ?_ (by assumption))))
      replace k1 := cell_ext eZ k1
      replace HSr := Lib.hid (HSr.out.ext eZ)
      replace HLr := Lib.hid (HLr.out.ext eZ)
      replace HTr := Lib.hid (HTr.out.ext eZ)
      replace HI := Lib.hid (HI.out.ext eZc)
      replace HR := Lib.hid (HR.out.trans' eZ)
      rw [← hZ]
      replace hz1 := World.block_lt_of_cell? _ _ k1
      clear hZ eZ eZc
      simp only at hz1
      obtain ⟨ce, hce⟩ : ∃ ce, ce = doomErr ks s l := ⟨_, rfl⟩
      have t1 := fun w h1 h2 h3 => checkDoom_any ks s l (.slice sa ks.length cap) (.slice la s.length lcap) (.slice ta l.length tcap) w h1 h2 h3
      have t2 := fun w h1 h2 h3 => checkDoomR_any ks s l (.slice sa ks.length cap) (.slice la s.length lcap) (.slice ta l.length tcap) w h1 h2 h3
      rw [← hce] at t1 t2
      have T1 := Lib.hid t1
      have T2 := Lib.hid t2
      have e1 : (ce != ce) = false := by simp
      have e2 : (er != er) = false := by simp
      clear t1 t2 hce
      refine wp_region_grow (by kernel_rfl) (by kernel_rfl) ?_
      repeat (first | go_big_quiet_step ((first | (go_at_call 36; exact grow_call (T1.out _ (HSr.out.ext (by exact (by repeat (first | exact Below.refl _ _ | refine Ext.al ?_ _ | refine Ext.dr ?_ | refine Ext.drN ?_ _ | refine Ext.gr ?_ _ | refine Ext.set ?_ (by simp) _ | (refine Ext.trans' ?_ (by assumption)))))) (HLr.out.ext (by exact (by repeat (first | exact Below.refl _ _ | refine Ext.al ?_ _ | refine Ext.dr ?_ | refine Ext.drN ?_ _ | refine Ext.gr ?_ _ | refine Ext.set ?_ (by simp) _ | (refine Ext.trans' ?_ (by assumption)))))) (HTr.out.ext (by exact (by repeat (first | exact Below.refl _ _ | refine Ext.al ?_ _ | refine Ext.dr ?_ | refine Ext.drN ?_ _ | refine Ext.gr ?_ _ | refine Ext.set ?_ (by simp) _ | (refine Ext.trans' ?_ (by assumption)))))))) | (go_at_call 37; exact grow_call (T2.out _ (HSr.out.ext (by exact (by repeat (first | exact Below.refl _ _ | refine Ext.al ?_ _ | refine Ext.dr ?_ | refine Ext.drN ?_ _ | refine Ext.gr ?_ _ | refine Ext.set ?_ (by simp) _ | (refine Ext.trans' ?_ (by assumption)))))) (HLr.out.ext (by exact (by repeat (first | exact Below.refl _ _ | refine Ext.al ?_ _ | refine Ext.dr ?_ | refine Ext.drN ?_ _ | refine Ext.gr ?_ _ | refine Ext.set ?_ (by simp) _ | (refine Ext.trans' ?_ (by assumption)))))) (HTr.out.ext (by exact (by repeat (first | exact Below.refl _ _ | refine Ext.al ?_ _ | refine Ext.dr ?_ | refine Ext.drN ?_ _ | refine Ext.gr ?_ _ | refine Ext.set ?_ (by simp) _ | (refine Ext.trans' ?_ (by assumption)))))))))) | quiet_step ((first | (go_at_call 36; exact grow_call (T1.out _ (HSr.out.ext (by exact (by repeat (first | exact Below.refl _ _ | refine Ext.al ?_ _ | refine Ext.dr ?_ | refine Ext.drN ?_ _ | refine Ext.gr ?_ _ | refine Ext.set ?_ (by simp) _ | (refine Ext.trans' ?_ (by assumption)))))) (HLr.out.ext (by exact (by repeat (first | exact Below.refl _ _ | refine Ext.al ?_ _ | refine Ext.dr ?_ | refine Ext.drN ?_ _ | refine Ext.gr ?_ _ | refine Ext.set ?_ (by simp) _ | (refine Ext.trans' ?_ (by assumption)))))) (HTr.out.ext (by exact (by repeat (first | exact Below.refl _ _ | refine Ext.al ?_ _ | refine Ext.dr ?_ | refine Ext.drN ?_ _ | refine Ext.gr ?_ _ | refine Ext.set ?_ (by simp) _ | (refine Ext.trans' ?_ (by assumption)))))))) | (go_at_call 37; exact grow_call (T2.out _ (HSr.out.ext (by exact (by repeat (first | exact Below.refl _ _ | refine Ext.al ?_ _ | refine Ext.dr ?_ | refine Ext.drN ?_ _ | refine Ext.gr ?_ _ | refine Ext.set ?_ (by simp) _ | (refine Ext.trans' ?_ (by assumption)))))) (HLr.out.ext (by exact (by repeat (first | exact Below.refl _ _ | refine Ext.al ?_ _ | refine Ext.dr ?_ | refine Ext.drN ?_ _ | refine Ext.gr ?_ _ | refine Ext.set ?_ (by simp) _ | (refine Ext.trans' ?_ (by assumption)))))) (HTr.out.ext (by exact (by repeat (first | exact Below.refl _ _ | refine Ext.al ?_ _ | refine Ext.dr ?_ | refine Ext.drN ?_ _ | refine Ext.gr ?_ _ | refine Ext.set ?_ (by simp) _ | (refine Ext.trans' ?_ (by assumption)))))))))))
      refine wpQuiet_nil ?_
      rintro _ ⟨g, rfl⟩
      by_cases hc : er = 0
      rotate_left
      · have e3 : (er == 0) = false := by simpa using hc
        have e4 : (er != 0) = true := by simpa using hc
        have hdl : dl = [] := HBAD.out hc
        subst hdl
        clear hc


        go_wp2_with fail
        refine callW (W0 := Z) (g := g) (by exact (by repeat (first | exact Below.refl _ _ | refine Ext.al ?_ _ | refine Ext.dr ?_ | refine Ext.drN ?_ _ | refine Ext.gr ?_ _ | refine Ext.set ?_ (by simp) _ | (refine Ext.trans' ?_ (by assumption))))) (works_any _) fun g3 hgr => ?_
        clear hgr
        go_wp2_with fail
        go_ret
        exact ⟨rfl, HR.out.trans' (grow_below Z g3)⟩

      · subst hc
        have HDE := Lib.hid (HOK.out rfl).1

        go_wp2_with fail
        refine callW (W0 := Z) (g := g) (by exact (by repeat (first | exact Below.refl _ _ | refine Ext.al ?_ _ | refine Ext.dr ?_ | refine Ext.drN ?_ _ | refine Ext.gr ?_ _ | refine Ext.set ?_ (by simp) _ | (refine Ext.trans' ?_ (by assumption))))) (checkDoomR_any ks s dl _ _ _ _ (HSr.out.ext (by exact (by repeat (first | exact Below.refl _ _ | refine Ext.al ?_ _ | refine Ext.dr ?_ | refine Ext.drN ?_ _ | refine Ext.gr ?_ _ | refine Ext.set ?_ (by simp) _ | (refine Ext.trans' ?_ (by assumption)))))) (HLr.out.ext (by exact (by repeat (first | exact Below.refl _ _ | refine Ext.al ?_ _ | refine Ext.dr ?_ | refine Ext.drN ?_ _ | refine Ext.gr ?_ _ | refine Ext.set ?_ (by simp) _ | (refine Ext.trans' ?_ (by assumption)))))) (HI.out.ext (by exact (by repeat (first | exact Below.refl _ _ | refine Ext.al ?_ _ | refine Ext.dr ?_ | refine Ext.drN ?_ _ | refine Ext.gr ?_ _ | refine Ext.set ?_ (by simp) _ | (refine Ext.trans' ?_ (by assumption))))))) fun g4 hgr => ?_
        clear hgr
        rw [HDE.out]
        go_wp2_with fail
        refine callW (W0 := Z) (g := g4) (by exact (by repeat (first | exact Below.refl _ _ | refine Ext.al ?_ _ | refine Ext.dr ?_ | refine Ext.drN ?_ _ | refine Ext.gr ?_ _ | refine Ext.set ?_ (by simp) _ | (refine Ext.trans' ?_ (by assumption))))) (works_any _) fun g5 hgr => ?_
        clear hgr
        go_wp2_with fail
        go_ret
        exact ⟨rfl, HR.out.trans' (grow_below Z g5)⟩
end Go.Proofs.Ytndgaklcnhoddaa
namespace Go.Proofs.Ytndgaklcnhoddaa
open Go.RowKit
open Go.ChangeShapes Go.WideShapes Go.ChangeAt in
set_option maxRecDepth 100000 in
theorem turnDooms_lifted (os : Os) (started : os.Started) (H : Type) (enc : TypeId × Value → H) :
    ReturnsInHanded {} Try.checked os 6 .any (Rows.turnDoomsSpec.pre6 enc Try.prog Try.f6 Rows.turnDoomsRow.domain false) (Rows.turnDoomsSpec.post enc Try.prog Try.f6 false true false false) := by
  refine returnsInHanded_of_change (C := Try.checked) own started (by kernel_rfl) Try.func6
    (ChangeSpec.witness6 (enc := enc) (C := Try.checked) false ⟨#[], #[.agg #[.slice none 0 0], .slice none 0 0, .slice none 0 0], []⟩ 8 (by kernel_rfl) (by kernel_rfl) (by kernel_rfl) (by kernel_rfl)) ?_
  intro W base args ds gs before hval0 hW hcnd _
  have hval : ∀ (j : Nat) t v, Try.f6.params[j]? = some t → args[j]? = some v → Value.okWide Try.prog W .any base t v := hval0
  have hW' := hW
  obtain ⟨p, q, hA0, hV, rfl, hfz, hnd⟩ := hW
  have hA : DataW.TrodAll enc Try.prog W 0 (fun _ => true) true Try.f6.params.toList args.toList ds p := hA0
  rw [Try.params6] at hA hval
  obtain ⟨v0, vs0, d0, ds0, p0, q0, hargs, rfl, rfl, h0, r0⟩ := trodAll_cons hA
  obtain ⟨v1, vs1, d1, ds1, p1, q1, rfl, rfl, rfl, h1, r1⟩ := trodAll_cons r0
  obtain ⟨v2, vs2, d2, ds2, p2, q2, rfl, rfl, rfl, h2, r2⟩ := trodAll_cons r1
  obtain ⟨rfl, rfl, rfl⟩ := trodAll_nil r2
  obtain rfl : args = #[v0, v1, v2] := by cases args; simp_all
  obtain ⟨ks, sks, rfl, hks⟩ := openHall (hval 0 24 v0 rfl rfl) h0
  obtain ⟨s, hs, ws⟩ := openInts (hval 1 22 v1 rfl rfl) h1
  obtain ⟨l, hl⟩ := openSteps (hval 2 41 v2 rfl rfl) h2
  clear hA0 hval0
  refine (turnDooms_any ks sks v1 s v2 l W hks hs hl).mono fun e W' ⟨he, hb⟩ => ?_
  subst he
  exact ⟨_, rfl, law_post laidOut (tb := 4) (hts_of (by kernel_rfl)) (by kernel_rfl) Try.underlying4 hW' rfl rfl hb⟩
theorem turnDooms_holds : Rows.TurnDoomsSaid :=
  OpenClaim.holds_of_wide 6 Try.f6 rfl rfl rfl rfl rfl rfl rfl ⟨rfl, rfl, rfl, rfl, rfl⟩ rfl rfl rfl rfl rfl (by kernel_rfl) Try.func6 (by kernel_rfl)
    (of_decide_eq_true (by kernel_rfl)) (by unfold Func.isWrapper; first | (rw [if_pos (by decide +kernel)]; kernel_rfl) | (rw [if_neg (by decide +kernel)]; exact ⟨rfl, rfl⟩))
    (fun os started H enc _ => turnDooms_lifted os started H enc)
end Go.Proofs.Ytndgaklcnhoddaa
