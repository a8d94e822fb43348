/-
  The walk of ring: from the place that was bettered last, back into the ring, and round it.
-/
import Derived.Test.YtgcldgchhdjnhaaWay
namespace Go.Proofs.Ytgcldgchhdjnhaa
open Go.RowKit Go.Shelf

set_option maxRecDepth 100000 in
set_option maxHeartbeats 2000000 in
theorem ring_any (s : WSt) (K : Nat) (hK : K ≤ 1000) (hin : BefIn s) (hr0 : 0 ≤ s.ringed) (hr1 : s.ringed < 11) (hch : Chain s (ringAt s) K (s.before (ringAt s)).toNat) (b : Nat) (w : World) (hw : WaysAt w b s) :
    Calls Try.prog 86 #[.pointer (some ⟨b, 0, none⟩)] w fun e w' =>
      ∃ v, e = .returned v ∧ Ext w w' ∧ IsStps w' v (ringBack s K).reverse := by
  have HW := Lib.hid hw
  have HIN := Lib.hid hin
  have HCH := Lib.hid hch
  have hbw := hw.lt
  obtain ⟨r, hr⟩ : ∃ r : Nat, s.ringed = r := ⟨s.ringed.toNat, by omega⟩
  have hrin := hw.rin
  rw [hr] at hrin
  have hr11 : r < 11 := by omega
  have HR := Lib.hid hr
  clear hw hin hch hr hr0 hr1
  go_enter Try.func86, Try.ntmps86
  go_wp2_with fail
  clear hrin
  go_loopw [3, 11] (fun a i W => ∃ k : Nat, k ≤ 11 ∧ i = .int .i64 k ∧ a = .int .i64 (itB s k r : Nat) ∧ Ext w W) (fun _ i _ => 11 - (intOf i).toNat)
  case atStart => exact ⟨0, by omega, rfl, rfl, Below.refl _ _⟩
  case round =>
    obtain ⟨k, hk, rfl, rfl, hE⟩ := hrel
    have HE := Lib.hid hE
    have hz := hE.size
    by_cases hlt : k < 11
    · have ha := itB_lt HIN.out (k := k) hr11
      have eb := (HW.out.ext hE).befo (i := itB s k r) ha
      have hnext := itB_succ s k r
      have hbin := HIN.out _ ha
      generalize itB s k r = at_ at *
      have hi11 : (at_ : Int) < 11 := by omega
      have hbw' : b < wr.heap.size := by omega
      have HN := Lib.hid hnext
      clear hE hnext
      go_wp2_with fail
      go_roundw
      case rel => exact ⟨k + 1, by omega, by go_num, by rw [HN.out]; congr 1; omega, HE.out⟩
      case measure => simp [intOf]; omega
    · obtain rfl : k = 11 := by omega
      have hfirst : itB s 11 r = ringAt s := by unfold ringAt; rw [HR.out]; rfl
      have hF11 : ringAt s < 11 := by rw [← hfirst]; exact itB_lt HIN.out hr11
      rw [hfirst, show ((11 : Nat) : Int) = 11 from rfl]
      obtain ⟨F, hF⟩ : ∃ F, F = ringAt s := ⟨_, rfl⟩
      rw [← hF] at hF11
      have HCH' : Hid (Chain s F K (s.before F).toNat) := Lib.hid (by rw [hF]; exact HCH.out)
      have HRB : Hid (ringBack s K = s.by_ F :: backs s K (s.before F).toNat) := Lib.hid (by rw [hF]; rfl)
      rw [← hF]
      clear hE hfirst hF HCH
      obtain ⟨w1, rfl⟩ : ∃ w1 : World, w1 = wr := ⟨_, rfl⟩
      go_wp2_with fail
      go_loopw [3, 4, 6] (fun a v bg W => ∃ (at_ : Nat) (pre : List Stp), a = .int .i64 at_ ∧ Ext w1 W ∧ Owns W w1.heap.size 89 3 v (sRows pre) ∧
        ((bg = .bool false ∧ at_ = F ∧ pre = []) ∨ (bg = .bool true ∧ ∃ j, j ≤ K ∧ Chain s F j at_ ∧ pre ++ backs s j at_ = ringBack s K)))
        (fun a _ bg _ => match bg with | .bool true => clen s F K (intOf a).toNat | _ => K + 1)
      case atStart => exact ⟨F, [], rfl, Below.refl _ _, Owns.nil _ _ _ _, .inl ⟨rfl, rfl, rfl⟩⟩
      case round =>
        obtain ⟨at_, pre, rfl, hE1, hown, hcase⟩ := hrel
        have HO := Lib.hid hown
        have HE1 := Lib.hid hE1
        have hz1 := hE1.size
        rcases hcase with ⟨rfl, rfl, rfl⟩ | ⟨rfl, j, hj, hc, hpre⟩
        · obtain ⟨jj, pre, hjj, hq, hnext, ha, hown, hpre0⟩ : ∃ jj, ∃ pre : List Stp, jj ≤ K ∧ Chain s at_ jj (s.before at_).toNat ∧ (pre ++ [s.by_ at_]) ++ backs s jj (s.before at_).toNat = ringBack s K ∧ at_ < 11 ∧ Owns wr w1.heap.size 89 3 _ (sRows pre) ∧ pre = [] :=
            ⟨K, [], Nat.le_refl _, HCH'.out, by rw [HRB.out]; rfl, hF11, hown, rfl⟩
          replace HO := Lib.hid hown
          clear hpre0
          have hbin := HIN.out _ ha
          have e0 := (HW.out.ext (HE.out.trans' HE1.out)).b0 (i := at_) ha
          have e1 := (HW.out.ext (HE.out.trans' HE1.out)).b1 (i := at_) ha
          have e2 := (HW.out.ext (HE.out.trans' HE1.out)).b2 (i := at_) ha
          have eb := (HW.out.ext (HE.out.trans' HE1.out)).befo (i := at_) ha
          have EB := Lib.hid eb
          have hbw' : b < wr.heap.size := by omega
          have hi11 : (at_ : Int) < 11 := by omega
          have hpl : (sRows pre).length ≤ 1000 := by
            have := congrArg List.length hnext
            simp [backs_len, ringBack, sRows] at this ⊢
            omega
          have HNEXT := Lib.hid hnext
          have HQ := Lib.hid hq
          clear hnext hq eb hown hE1
          go_wp2_with (at_builtin; refine wpOwn rfl (.tmp 28) (.tmp 35) elStp rfl w1.heap.size rfl (HO.out.ext (by exact (by repeat (first | exact Below.refl _ _ | refine Ext.al ?_ _ | refine Ext.dr ?_ | refine Ext.drN ?_ _ | refine Ext.gr ?_ _ | refine Ext.set ?_ (by simp) _ | (refine Ext.trans' ?_ (by assumption)))))) wr.heap.size 0 1 [(s.by_ at_).cells] rfl (by simp [Stp.cells]) (rowsAt_one (fun j hj => by
              have hj3 : j < 3 := by simpa [Stp.cells] using hj
              match j, hj3 with
              | 0, _ => simp [go_sem, Stp.cells]
              | 1, _ => simp [go_sem, Stp.cells]
              | 2, _ => simp [go_sem, Stp.cells])) (by simp [Stp.cells, Value.oneCell']) (by simp; omega) (by simp; omega) ?_)
          intro v' w' hown' hb'
          have hEr : Ext w1 w' := HE1.out.trans (Below.trans (by exact ((Below.refl _ _).alloc (by omega) _)) hb')
          have hs' := hEr.size
          have hb2 : b < w'.heap.size := by omega
          have HEr := Lib.hid hEr
          have HO' := Lib.hid hown'
          have eb := (HW.out.ext (HE.out.trans' hEr)).befo (i := at_) ha
          clear hEr hown' hb' e0 e1 e2
          go_wp2_with fail
          go_roundw
          case rel =>
            refine ⟨(s.before at_).toNat, pre ++ [s.by_ at_], by congr 1; omega, HEr.out, ?_, .inr ⟨rfl, jj, hjj, HQ.out, HNEXT.out⟩⟩
            have := HO'.out
            simpa [sRows] using this
          case measure =>
            have hm := clen_chain HQ.out (F := K) hjj
            have e : intOf (.int .i64 (s.before at_)) = s.before at_ := rfl
            simp [e, hm]
            omega
        · cases j with
          | succ j =>
            obtain ⟨q1, ha, q3, q4, hq⟩ := hc
            obtain ⟨jj, hjj', hq, hnext⟩ : ∃ jj, jj + 1 ≤ K ∧ Chain s F jj (s.before at_).toNat ∧ (pre ++ [s.by_ at_]) ++ backs s jj (s.before at_).toNat = ringBack s K :=
              ⟨j, hj, hq, by rw [← hpre]; simp [backs]⟩
            have hjj : jj ≤ K := by omega
            have hne : ((at_ : Int) == (F : Int)) = false := by simp; omega
            have hcl := clen_chain (s := s) (start := F) (j := jj + 1) (a := at_) (F := K) ⟨q1, ha, q3, q4, hq⟩ hjj'
            have HCL := Lib.hid hcl
            clear hpre hcl
            have hbin := HIN.out _ ha
            have e0 := (HW.out.ext (HE.out.trans' HE1.out)).b0 (i := at_) ha
            have e1 := (HW.out.ext (HE.out.trans' HE1.out)).b1 (i := at_) ha
            have e2 := (HW.out.ext (HE.out.trans' HE1.out)).b2 (i := at_) ha
            have eb := (HW.out.ext (HE.out.trans' HE1.out)).befo (i := at_) ha
            have EB := Lib.hid eb
            have hbw' : b < wr.heap.size := by omega
            have hi11 : (at_ : Int) < 11 := by omega
            have hpl : (sRows pre).length ≤ 1000 := by
              have := congrArg List.length hnext
              simp [backs_len, ringBack, sRows] at this ⊢
              omega
            have HNEXT := Lib.hid hnext
            have HQ := Lib.hid hq
            clear hnext hq eb hown hE1
            go_wp2_with (at_builtin; refine wpOwn rfl (.tmp 28) (.tmp 35) elStp rfl w1.heap.size rfl (HO.out.ext (by exact (by repeat (first | exact Below.refl _ _ | refine Ext.al ?_ _ | refine Ext.dr ?_ | refine Ext.drN ?_ _ | refine Ext.gr ?_ _ | refine Ext.set ?_ (by simp) _ | (refine Ext.trans' ?_ (by assumption)))))) wr.heap.size 0 1 [(s.by_ at_).cells] rfl (by simp [Stp.cells]) (rowsAt_one (fun j hj => by
                have hj3 : j < 3 := by simpa [Stp.cells] using hj
                match j, hj3 with
                | 0, _ => simp [go_sem, Stp.cells]
                | 1, _ => simp [go_sem, Stp.cells]
                | 2, _ => simp [go_sem, Stp.cells])) (by simp [Stp.cells, Value.oneCell']) (by simp; omega) (by simp; omega) ?_)
            intro v' w' hown' hb'
            have hEr : Ext w1 w' := HE1.out.trans (Below.trans (by exact ((Below.refl _ _).alloc (by omega) _)) hb')
            have hs' := hEr.size
            have hb2 : b < w'.heap.size := by omega
            have HEr := Lib.hid hEr
            have HO' := Lib.hid hown'
            have eb := (HW.out.ext (HE.out.trans' hEr)).befo (i := at_) ha
            clear hEr hown' hb' e0 e1 e2
            go_wp2_with fail
            go_roundw
            case rel =>
              refine ⟨(s.before at_).toNat, pre ++ [s.by_ at_], by congr 1; omega, HEr.out, ?_, .inr ⟨rfl, jj, hjj, HQ.out, HNEXT.out⟩⟩
              have := HO'.out
              simpa [sRows] using this
            case measure =>
              have hm := clen_chain HQ.out (F := K) hjj
              have hm2 : clen s F K at_ = jj + 1 := HCL.out
              have e : intOf (.int .i64 (s.before at_)) = s.before at_ := rfl
              simp [hm, intOf, hm2]
          | zero =>
            obtain rfl : at_ = F := hc
            have hne : ((at_ : Int) == (at_ : Int)) = true := by simp
            have hpk : pre = ringBack s K := by rw [← hpre]; simp [backs]
            obtain ⟨va, vcap, rfl, hv1, hv2, hv3⟩ := hown.form
            rcases hv3 with ⟨h1, _⟩ | ⟨g, rfl, hg1, hg2, _, _⟩
            · exfalso
              have : (sRows pre).length = 0 := by rw [h1]; rfl
              rw [hpk] at this
              simp [sRows, ringBack] at this
            have hrl : (sRows pre).length = pre.length := by simp [sRows]
            rw [hrl] at hown hv1 ⊢
            have hpl : pre.length ≤ 1001 := by rw [hpk]; simp [ringBack, backs_len]; omega
            obtain ⟨cur, hcur, hB⟩ := hown.block
            have HCUR := Lib.hid hcur
            have HBB := Lib.hid hB
            have HPK := Lib.hid hpk
            clear hpk hpre hown hcur hB hE1
            go_wp2_with fail
            refine (rev_any g pre.length vcap (fun i => pre.getD i ⟨false, 0, false⟩) cur _ (by omega) wr HCUR.out HBB.out).mono ?_
            rintro e W' ⟨rfl, hk', cur', hc', hb'⟩
            have HK' := Lib.hid hk'
            have HC' := Lib.hid hc'
            have HB' := Lib.hid hb'
            clear hk' hc' hb'
            go_wp2_with fail
            refine bodyPost_ret (v := .slice (some ⟨g, 0, none⟩) pre.length vcap) (by simp [results, Try.results86, go_sem]) rfl ?_
            refine ⟨_, rfl, kept_ext (HE.out.trans' HE1.out) (by have := HE.out.size; omega) HK'.out, ?_⟩
            rw [← HPK.out]
            refine HB'.out.isStps HC'.out (by simp) hv1 hv2 fun i hi => ?_
            have hi' : i < pre.length := by simpa using hi
            simp [List.getD, show pre.length - 1 - i < pre.length by omega]
end Go.Proofs.Ytgcldgchhdjnhaa
