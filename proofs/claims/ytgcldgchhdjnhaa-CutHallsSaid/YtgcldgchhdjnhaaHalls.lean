/-
  The statement CutHalls holds: which halls are valid, and which numbers are a truth, as the program says it, is what the definitions say, or the error; a truth that is returned is one; for every hall and any numbers that are handed in. No condition.
-/
import Derived.Test.YtgcldgchhdjnhaaWorks
import Derived.Test.YtgcldgchhdjnhaaOpenA
import Derived.Test.YtgcldgchhdjnhaaTruthCR
import Derived.Test.YtgcldgchhdjnhaaRefS
import Derived.Test.YtgcldgchhdjnhaaTru
namespace Go.Proofs.Ytgcldgchhdjnhaa
open Go.RowKit Go.Shelf
set_option maxRecDepth 100000 in
set_option maxHeartbeats 4000000 in
theorem cutHalls_any (h : Hall) (sv tv : Value) (t : List Int) (w : World) (hs : IsCnts w sv h.cs) (ht : IsInts w .i64 tv t) :
    Calls Try.prog 3 #[.agg #[.int .i64 h.n, .int .i64 h.most, sv], tv] w fun e w' => e = .returned (.bool true) ∧ Ext w w' := by
  obtain ⟨sa, cap, rfl, hl1, hl2, -⟩ := hs.spec
  obtain ⟨ta, tcap, rfl, hm1, hm2, -⟩ := ht.spec
  have HS := Lib.hid hs
  have HT := Lib.hid ht
  clear hs ht
  go_enter Try.func3, Try.ntmps3
  go_wp2_with fail
  refine callGr (great_any h _ _ (HS.out.ext (by exact (by repeat (first | exact Below.refl _ _ | refine Ext.al ?_ _ | refine Ext.dr ?_ | refine Ext.drN ?_ _ | refine Ext.gr ?_ _ | refine Ext.set ?_ (by simp) _ | (refine Ext.trans' ?_ (by assumption))))))) fun g => ?_
  by_cases hg : 20 < h.cs.length
  · rw [decide_eq_true hg]
    go_wp2_with fail
    refine callGr2 (works_any _) fun g => ?_
    go_wp2_with fail
    go_ret
    exact ⟨rfl, (by repeat (first | exact Below.refl _ _ | refine Ext.al ?_ _ | refine Ext.dr ?_ | refine Ext.drN ?_ _ | refine Ext.gr ?_ _ | refine Ext.set ?_ (by simp) _ | (refine Ext.trans' ?_ (by assumption))))⟩
  rw [decide_eq_false hg]
  by_cases h30 : 30 < t.length
  · have h30' : decide ((30 : Int) < (t.length : Int)) = true := decide_eq_true (by omega)
    have H30 := Lib.hid h30
    clear h30
    go_wp2_with fail
    refine callGr2 (works_any _) fun g => ?_
    go_wp2_with fail
    go_ret
    exact ⟨rfl, (by repeat (first | exact Below.refl _ _ | refine Ext.al ?_ _ | refine Ext.dr ?_ | refine Ext.drN ?_ _ | refine Ext.gr ?_ _ | refine Ext.set ?_ (by simp) _ | (refine Ext.trans' ?_ (by assumption))))⟩
  have h30' : decide ((30 : Int) < (t.length : Int)) = false := decide_eq_false (by omega)
  have H30 := Lib.hid h30
  clear h30 hg
  go_wp2_with fail
  refine (truth_fin h _ _ (HS.out.ext (by exact (by repeat (first | exact Below.refl _ _ | refine Ext.al ?_ _ | refine Ext.dr ?_ | refine Ext.drN ?_ _ | refine Ext.gr ?_ _ | refine Ext.set ?_ (by simp) _ | (refine Ext.trans' ?_ (by assumption))))))).mono ?_
  rintro e W1 ⟨rv, rfl, hE1, hR⟩
  obtain ⟨g1, rfl⟩ := grow_of (Ext.trans' (by exact (by repeat (first | exact Below.refl _ _ | refine Ext.al ?_ _ | refine Ext.dr ?_ | refine Ext.drN ?_ _ | refine Ext.gr ?_ _ | refine Ext.set ?_ (by simp) _ | (refine Ext.trans' ?_ (by assumption))))) hE1 : Ext (w.alloc (.cells #[.int .i64 h.n, .int .i64 h.most, .slice sa h.cs.length cap] 24)) W1)
  obtain ⟨ra, rcap, rfl, -⟩ := hR.spec
  have HR := Lib.hid hR
  clear hE1 hR
  obtain ⟨c, hc⟩ : ∃ x, x = chk h := ⟨_, rfl⟩
  obtain ⟨d, hd⟩ : ∃ x, x = truthE h t := ⟨_, rfl⟩
  obtain ⟨e, he⟩ : ∃ x, x = truthErr h := ⟨_, rfl⟩
  have c1 := fun w hs => checkHall_any h (.slice sa h.cs.length cap) w hs
  have c2 := fun w hs => checkHallR_any h (.slice sa h.cs.length cap) w hs
  have c3 := fun w hs ht => checkTruth_any h (.slice sa h.cs.length cap) (.slice ta t.length tcap) t w hs ht
  have c4 := fun w hs ht => checkTruthR_any h (.slice sa h.cs.length cap) (.slice ta t.length tcap) t w hs ht
  have c5 := fun w hs => truthError_any h (.slice sa h.cs.length cap) w hs
  rw [← truthErr_eq] at c5
  rw [← hc] at c1 c2
  rw [← hd] at c3 c4
  rw [← he] at c5 ⊢
  have C1 := Lib.hid c1
  have C2 := Lib.hid c2
  have C3 := Lib.hid c3
  have C4 := Lib.hid c4
  have C5 := Lib.hid c5
  have HEQ := Lib.hid he
  clear c1 c2 c3 c4 c5 hc hd he
  go_upto_region 4 with (fail)
  refine wp_region_grow (by kernel_rfl) (by kernel_rfl) ?_
  repeat (first | go_big_quiet_step ((first | (go_at_call 20; exact grow_call (C1.out _ (HS.out.ext (by exact (by repeat (first | exact Below.refl _ _ | refine Ext.al ?_ _ | refine Ext.dr ?_ | refine Ext.drN ?_ _ | refine Ext.gr ?_ _ | refine Ext.set ?_ (by simp) _ | (refine Ext.trans' ?_ (by assumption)))))))) | (go_at_call 21; exact grow_call (C2.out _ (HS.out.ext (by exact (by repeat (first | exact Below.refl _ _ | refine Ext.al ?_ _ | refine Ext.dr ?_ | refine Ext.drN ?_ _ | refine Ext.gr ?_ _ | refine Ext.set ?_ (by simp) _ | (refine Ext.trans' ?_ (by assumption)))))))) | (go_at_call 22; exact grow_call (C3.out _ (HS.out.ext (by exact (by repeat (first | exact Below.refl _ _ | refine Ext.al ?_ _ | refine Ext.dr ?_ | refine Ext.drN ?_ _ | refine Ext.gr ?_ _ | refine Ext.set ?_ (by simp) _ | (refine Ext.trans' ?_ (by assumption)))))) (HT.out.ext (by exact (by repeat (first | exact Below.refl _ _ | refine Ext.al ?_ _ | refine Ext.dr ?_ | refine Ext.drN ?_ _ | refine Ext.gr ?_ _ | refine Ext.set ?_ (by simp) _ | (refine Ext.trans' ?_ (by assumption)))))))) | (go_at_call 23; exact grow_call (C4.out _ (HS.out.ext (by exact (by repeat (first | exact Below.refl _ _ | refine Ext.al ?_ _ | refine Ext.dr ?_ | refine Ext.drN ?_ _ | refine Ext.gr ?_ _ | refine Ext.set ?_ (by simp) _ | (refine Ext.trans' ?_ (by assumption)))))) (HT.out.ext (by exact (by repeat (first | exact Below.refl _ _ | refine Ext.al ?_ _ | refine Ext.dr ?_ | refine Ext.drN ?_ _ | refine Ext.gr ?_ _ | refine Ext.set ?_ (by simp) _ | (refine Ext.trans' ?_ (by assumption)))))))) | (go_at_call 24; exact grow_call (C5.out _ (HS.out.ext (by exact (by repeat (first | exact Below.refl _ _ | refine Ext.al ?_ _ | refine Ext.dr ?_ | refine Ext.drN ?_ _ | refine Ext.gr ?_ _ | refine Ext.set ?_ (by simp) _ | (refine Ext.trans' ?_ (by assumption)))))))))) | quiet_step ((first | (go_at_call 20; exact grow_call (C1.out _ (HS.out.ext (by exact (by repeat (first | exact Below.refl _ _ | refine Ext.al ?_ _ | refine Ext.dr ?_ | refine Ext.drN ?_ _ | refine Ext.gr ?_ _ | refine Ext.set ?_ (by simp) _ | (refine Ext.trans' ?_ (by assumption)))))))) | (go_at_call 21; exact grow_call (C2.out _ (HS.out.ext (by exact (by repeat (first | exact Below.refl _ _ | refine Ext.al ?_ _ | refine Ext.dr ?_ | refine Ext.drN ?_ _ | refine Ext.gr ?_ _ | refine Ext.set ?_ (by simp) _ | (refine Ext.trans' ?_ (by assumption)))))))) | (go_at_call 22; exact grow_call (C3.out _ (HS.out.ext (by exact (by repeat (first | exact Below.refl _ _ | refine Ext.al ?_ _ | refine Ext.dr ?_ | refine Ext.drN ?_ _ | refine Ext.gr ?_ _ | refine Ext.set ?_ (by simp) _ | (refine Ext.trans' ?_ (by assumption)))))) (HT.out.ext (by exact (by repeat (first | exact Below.refl _ _ | refine Ext.al ?_ _ | refine Ext.dr ?_ | refine Ext.drN ?_ _ | refine Ext.gr ?_ _ | refine Ext.set ?_ (by simp) _ | (refine Ext.trans' ?_ (by assumption)))))))) | (go_at_call 23; exact grow_call (C4.out _ (HS.out.ext (by exact (by repeat (first | exact Below.refl _ _ | refine Ext.al ?_ _ | refine Ext.dr ?_ | refine Ext.drN ?_ _ | refine Ext.gr ?_ _ | refine Ext.set ?_ (by simp) _ | (refine Ext.trans' ?_ (by assumption)))))) (HT.out.ext (by exact (by repeat (first | exact Below.refl _ _ | refine Ext.al ?_ _ | refine Ext.dr ?_ | refine Ext.drN ?_ _ | refine Ext.gr ?_ _ | refine Ext.set ?_ (by simp) _ | (refine Ext.trans' ?_ (by assumption)))))))) | (go_at_call 24; exact grow_call (C5.out _ (HS.out.ext (by exact (by repeat (first | exact Below.refl _ _ | refine Ext.al ?_ _ | refine Ext.dr ?_ | refine Ext.drN ?_ _ | refine Ext.gr ?_ _ | refine Ext.set ?_ (by simp) _ | (refine Ext.trans' ?_ (by assumption)))))))))))
  refine wpQuiet_nil ?_
  rintro _ ⟨g, rfl⟩
  by_cases he : e = 0
  · have htr : truthE h (truthL h) = 0 := truthL_ok (by rw [← HEQ.out]; exact he)
    have c6 := fun w hs ht => checkTruthR_any h (.slice sa h.cs.length cap) (.slice ra (truthL h).length rcap) (truthL h) w hs ht
    rw [htr] at c6
    have C6 := Lib.hid c6
    have he' : (e == 0) = true := by rw [he]; rfl
    have HE := Lib.hid he
    replace HR := Lib.hid ((HR.out : IsInts (grow _ g1) _ _ _).ext (grow_below _ g))
    clear c6 htr he
    go_wp2_with fail
    refine (C6.out _ (HS.out.ext (by exact (by repeat (first | exact Below.refl _ _ | refine Ext.al ?_ _ | refine Ext.dr ?_ | refine Ext.drN ?_ _ | refine Ext.gr ?_ _ | refine Ext.set ?_ (by simp) _ | (refine Ext.trans' ?_ (by assumption)))))) (HR.out.ext (by exact (by repeat (first | exact Below.refl _ _ | refine Ext.al ?_ _ | refine Ext.dr ?_ | refine Ext.drN ?_ _ | refine Ext.gr ?_ _ | refine Ext.set ?_ (by simp) _ | (refine Ext.trans' ?_ (by assumption))))))).mono ?_
    rintro e6 W6 ⟨rfl, hb6⟩
    have HB6 := Lib.hid (Ext.trans' (by exact (by repeat (first | exact Below.refl _ _ | refine Ext.al ?_ _ | refine Ext.dr ?_ | refine Ext.drN ?_ _ | refine Ext.gr ?_ _ | refine Ext.set ?_ (by simp) _ | (refine Ext.trans' ?_ (by assumption))))) hb6 : Ext w W6)
    clear hb6
    go_wp2_with fail
    refine (works_any _).mono ?_
    rintro e7 W7 ⟨rfl, hb7⟩
    go_wp2_with fail
    go_ret
    exact ⟨rfl, HB6.out.trans' hb7⟩
  · have hl : truthL h = [] := by
      unfold truthL
      rw [if_neg (by rw [← HEQ.out]; exact he)]
    have he' : (e == 0) = false := by simpa using he
    have HE := Lib.hid he
    clear he
    rw [hl]
    clear hl
    simp only [List.length_nil]
    go_wp2_with fail
    refine (works_any _).mono ?_
    rintro e7 W7 ⟨rfl, hb7⟩
    go_wp2_with fail
    go_ret
    exact ⟨rfl, Ext.trans' (by exact (by repeat (first | exact Below.refl _ _ | refine Ext.al ?_ _ | refine Ext.dr ?_ | refine Ext.drN ?_ _ | refine Ext.gr ?_ _ | refine Ext.set ?_ (by simp) _ | (refine Ext.trans' ?_ (by assumption))))) hb7⟩
open Go.ChangeShapes Go.WideShapes Go.ChangeAt in
set_option maxRecDepth 100000 in
theorem cutHalls_lifted (os : Os) (started : os.Started) (H : Type) (enc : TypeId × Value → H) :
    ReturnsInHanded {} Try.checked os 3 .any (Rows.cutHallsSpec.pre6 enc Try.prog Try.f3 Rows.cutHallsRow.domain false) (Rows.cutHallsSpec.post enc Try.prog Try.f3 false true false false) := by
  refine returnsInHanded_of_change (C := Try.checked) own started (by kernel_rfl) Try.func3
    (ChangeSpec.witness6 (enc := enc) (C := Try.checked) false ⟨#[], #[.agg #[.int .i64 0, .int .i64 0, .slice none 0 0], .slice none 0 0], []⟩ 8 (by kernel_rfl) (by kernel_rfl) (by kernel_rfl) (by kernel_rfl)) ?_
  intro W base args ds gs before hval0 hW hcnd _
  have hval : ∀ (j : Nat) t v, Try.f3.params[j]? = some t → args[j]? = some v → Value.okWide Try.prog W .any base t v := hval0
  have hW' := hW
  obtain ⟨p, q, hA0, hV, rfl, hfz, hnd⟩ := hW
  have hA : DataW.TrodAll enc Try.prog W 0 (fun _ => true) true Try.f3.params.toList args.toList ds p := hA0
  rw [Try.params3] at hA hval
  obtain ⟨v0, vs0, d0, ds0, p0, q0, hargs, rfl, rfl, h0, r0⟩ := trodAll_cons hA
  obtain ⟨v1, vs1, d1, ds1, p1, q1, rfl, rfl, rfl, h1, r1⟩ := trodAll_cons r0
  obtain ⟨rfl, rfl, rfl⟩ := trodAll_nil r1
  obtain rfl : args = #[v0, v1] := by cases args; simp_all
  obtain ⟨hh, shh, rfl, hhh⟩ := openHall (hval 0 24 v0 rfl rfl) h0
  obtain ⟨t, ht, wt⟩ := openNums Try.underlying25 Try.underlying2 (by kernel_rfl) (hval 1 25 v1 rfl rfl) h1
  clear hA0 hval0
  refine (cutHalls_any hh shh v1 t W hhh ht).mono fun e W' ⟨he, hb⟩ => ?_
  subst he
  exact ⟨_, rfl, law_post laidOut (tb := 4) (hts_of (by kernel_rfl)) (by kernel_rfl) Try.underlying4 hW' rfl rfl hb⟩
theorem cutHalls_holds : Rows.CutHallsSaid :=
  OpenClaim.holds_of_wide 3 Try.f3 rfl rfl rfl rfl rfl rfl rfl ⟨rfl, rfl, rfl, rfl, rfl⟩ rfl rfl rfl rfl rfl (by kernel_rfl) Try.func3 (by kernel_rfl)
    (of_decide_eq_true (by kernel_rfl)) (by unfold Func.isWrapper; first | (rw [if_pos (by decide +kernel)]; kernel_rfl) | (rw [if_neg (by decide +kernel)]; exact ⟨rfl, rfl⟩))
    (fun os started H enc _ => cutHalls_lifted os started H enc)
end Go.Proofs.Ytgcldgchhdjnhaa
