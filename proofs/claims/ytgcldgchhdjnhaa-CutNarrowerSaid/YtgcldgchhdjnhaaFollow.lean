/-
  The walks of odd, follow, isRing and CheckWay.
  The walks of isRing and CheckWay.
  The walk of CheckTruth: whether numbers are a truth.
-/
import Derived.Test.YtgcldgchhdjnhaaOpen
namespace Go.Proofs.Ytgcldgchhdjnhaa
open Go.RowKit Go.Shelf

set_option maxHeartbeats 1000000 in
theorem odd_any (h : Hall) (sv : Value) (x : Stp) (b r : Nat) (w : World) (hs : SheetAt w b r h sv) :
    Calls Try.prog 71 #[.pointer (some ⟨b, 0, none⟩), .agg #[.bool x.win, .int .i64 x.idx, .bool x.back]] w fun e w' => e = .returned (.bool (oddS h x)) ∧ Ext w w' := by
  have c0 := hs.c0
  have c2 := hs.c2
  obtain ⟨sa, cap, rfl, hl1, hl2, -⟩ := hs.cs.spec
  have hb := World.block_lt_of_cell? _ _ c0
  clear hs
  obtain ⟨xw, xi, xb⟩ := x
  by_cases h0 : xi < 0
  · have h0' : decide (xi < 0) = true := by simpa using h0
    cases xw
    all_goals
      go_enter Try.func71, Try.ntmps71
      go_wp2_with fail
      go_quiet (fail)
      go_wp2_with fail
      go_ret
      exact ⟨ret_bool (by simp [oddS, okStp]; omega), (by repeat (first | exact Below.refl _ _ | refine Ext.al ?_ _ | refine Ext.dr ?_ | refine Ext.drN ?_ _ | refine Ext.gr ?_ _ | refine Ext.set ?_ (by simp) _ | (refine Ext.trans' ?_ (by assumption))))⟩
  · have h0' : decide (xi < 0) = false := by simpa using h0
    cases xw
    · by_cases h1 : (h.cs.length : Int) ≤ xi
      · have h1' : decide ((h.cs.length : Int) ≤ xi) = true := by simpa using h1
        go_enter Try.func71, Try.ntmps71
        go_wp2_with fail
        go_quiet (fail)
        go_wp2_with fail
        go_ret
        exact ⟨ret_bool (by simp [oddS, okStp]; omega), (by repeat (first | exact Below.refl _ _ | refine Ext.al ?_ _ | refine Ext.dr ?_ | refine Ext.drN ?_ _ | refine Ext.gr ?_ _ | refine Ext.set ?_ (by simp) _ | (refine Ext.trans' ?_ (by assumption))))⟩
      · have h1' : decide ((h.cs.length : Int) ≤ xi) = false := by simpa using h1
        go_enter Try.func71, Try.ntmps71
        go_wp2_with fail
        go_quiet (fail)
        go_wp2_with fail
        go_ret
        exact ⟨ret_bool (by simp [oddS, okStp]; omega), (by repeat (first | exact Below.refl _ _ | refine Ext.al ?_ _ | refine Ext.dr ?_ | refine Ext.drN ?_ _ | refine Ext.gr ?_ _ | refine Ext.set ?_ (by simp) _ | (refine Ext.trans' ?_ (by assumption))))⟩
    · by_cases h1 : h.n ≤ xi
      · have h1' : decide (h.n ≤ xi) = true := by simpa using h1
        go_enter Try.func71, Try.ntmps71
        go_wp2_with fail
        go_quiet (fail)
        go_wp2_with fail
        go_ret
        exact ⟨ret_bool (by simp [oddS, okStp]; omega), (by repeat (first | exact Below.refl _ _ | refine Ext.al ?_ _ | refine Ext.dr ?_ | refine Ext.drN ?_ _ | refine Ext.gr ?_ _ | refine Ext.set ?_ (by simp) _ | (refine Ext.trans' ?_ (by assumption))))⟩
      · have h1' : decide (h.n ≤ xi) = false := by simpa using h1
        go_enter Try.func71, Try.ntmps71
        go_wp2_with fail
        go_quiet (fail)
        go_wp2_with fail
        go_ret
        exact ⟨ret_bool (by simp [oddS, okStp]; omega), (by repeat (first | exact Below.refl _ _ | refine Ext.al ?_ _ | refine Ext.dr ?_ | refine Ext.drN ?_ _ | refine Ext.gr ?_ _ | refine Ext.set ?_ (by simp) _ | (refine Ext.trans' ?_ (by assumption))))⟩

theorem fol_drop {h : Hall} {s f : Int} {l : List Stp} {k : Nat} (hk : k < l.length) : fol h s f (l.drop k) = if src h l[k] = f then fol h (s + cost h l[k]) (dst h l[k]) (l.drop (k + 1)) else (0, 0, false) := by
  rw [List.drop_eq_getElem_cons hk, fol]

set_option maxHeartbeats 1000000 in
theorem follow_any (h : Hall) (sv lv : Value) (f : Int) (l : List Stp) (v : Valid h) (hl : ∀ x ∈ l, okStp h x = true) (h200 : l.length ≤ 200) (b r : Nat) (w : World) (hs : SheetAt w b r h sv) (hv : IsStps w lv l) :
    Calls Try.prog 72 #[.pointer (some ⟨b, 0, none⟩), .int .i64 f, lv] w fun e w' =>
      e = .returned (.tuple #[.int .i64 (fol h 0 f l).1, .int .i64 (fol h 0 f l).2.1, .bool (fol h 0 f l).2.2]) ∧ Ext w w' := by
  obtain ⟨sa, cap, rfl, hl1, hl2, -⟩ := hv.spec
  have HS := Lib.hid hs
  have HV := Lib.hid hv
  have V := Lib.hid v
  have HL := Lib.hid hl
  clear hs hv v hl
  go_enter Try.func72, Try.ntmps72
  go_wp2_with fail
  go_loopw [1, 9, 17] (fun fv s i W => ∃ (k : Nat) (f' s' : Int), k ≤ l.length ∧ i = .int .i64 k ∧ s = .int .i64 s' ∧ fv = .int .i64 f' ∧ -(10000000 * (k : Int)) ≤ s' ∧ s' ≤ 10000000 * (k : Int) ∧ fol h s' f' (l.drop k) = fol h 0 f l ∧ Ext w W) (fun _ _ i _ => l.length - (intOf i).toNat)
  case atStart => exact ⟨0, f, 0, Nat.zero_le _, rfl, rfl, rfl, by simp, by simp, by simp, Below.refl _ _⟩
  case round =>
    obtain ⟨k, f', s', hk, rfl, rfl, rfl, b1, b2, hfol, hb⟩ := hrel
    have HF := Lib.hid hfol
    clear hfol
    by_cases hlt : k < l.length
    · rcases (HV.out.ext hb).opened with e | ⟨cb, off, rfl, hc⟩
      · simp [e] at hlt
      obtain ⟨c0, c1, c2⟩ := hc k hlt
      have hok := HL.out l[k] (List.getElem_mem hlt)
      have hcb := cost_bd V.out hok
      have HOK := Lib.hid hok
      have HX := Lib.hid hb
      clear hc hok hb
      go_wp2_with fail
      refine (ends_any h (sv := sv) l[k] b _ V.out HOK.out ((HS.out.ext HX.out).at.ext (by repeat (first | exact Below.refl _ _ | refine Ext.al ?_ _ | refine Ext.dr ?_ | refine Ext.drN ?_ _ | refine Ext.gr ?_ _ | refine Ext.set ?_ (by simp) _ | (refine Ext.trans' ?_ (by assumption)))))).mono ?_
      rintro e W' ⟨rfl, hb'⟩
      by_cases hsrc : src h l[k] = f'
      · have hsrc' : (src h l[k] == f') = true := by simpa using hsrc
        go_wp2_with fail
        go_roundw
        case rel => exact ⟨k + 1, dst h l[k], s' + cost h l[k], by omega, by go_num, rfl, rfl, by omega, by omega, by rw [← HF.out, fol_drop hlt, if_pos hsrc], (Ext.al HX.out _).trans' hb'⟩
        case measure => simp [intOf]; omega
      · have hsrc' : (src h l[k] == f') = false := by simpa using hsrc
        go_wp2_with fail
        go_ret3
        exact ⟨ret_iib' (by have := HF.out; rw [fol_drop hlt, if_neg hsrc] at this; rw [← this]), (Ext.al HX.out _).trans' hb'⟩
    · obtain rfl : k = l.length := by omega
      have hf := HF.out
      rw [List.drop_length, fol] at hf
      go_wp2_with fail
      go_ret3
      exact ⟨ret_iib' (by rw [← hf]), hb⟩
end Go.Proofs.Ytgcldgchhdjnhaa
namespace Go.Proofs.Ytgcldgchhdjnhaa
open Go.RowKit Go.Shelf

set_option maxHeartbeats 1000000 in
theorem isRing_any (h : Hall) (sv lv : Value) (l : List Stp) (v : Valid h) (hl : ∀ x ∈ l, okStp h x = true) (h200 : l.length ≤ 200) (b r : Nat) (w : World) (hs : SheetAt w b r h sv) (hv : IsStps w lv l) :
    Calls Try.prog 83 #[.pointer (some ⟨b, 0, none⟩), lv] w fun e w' => e = .returned (.bool (isRingM h l)) ∧ Ext w w' := by
  obtain ⟨sa, cap, rfl, hl1, hl2, hl3⟩ := hv.spec
  have HS := Lib.hid hs
  have HV := Lib.hid hv
  have V := Lib.hid v
  have HL := Lib.hid hl
  clear hs hv v hl
  cases l with
  | nil =>
    clear hl3
    go_enter Try.func83, Try.ntmps83
    go_wp2_with fail
    go_ret
    exact ⟨ret_bool (by simp [isRingM]), (by repeat (first | exact Below.refl _ _ | refine Ext.al ?_ _ | refine Ext.dr ?_ | refine Ext.drN ?_ _ | refine Ext.gr ?_ _ | refine Ext.set ?_ (by simp) _ | (refine Ext.trans' ?_ (by assumption))))⟩
  | cons x l =>
    rcases hl3 with e | ⟨cb, off, rfl, hc⟩
    · cases e
    have hc0 := hc 0 (by simp)
    simp only [List.getElem_cons_zero, Nat.zero_mul, Nat.add_zero] at hc0
    obtain ⟨c0, c1, c2⟩ := hc0
    clear hc
    obtain ⟨n, hn⟩ : ∃ n : Nat, (x :: l).length = n := ⟨_, rfl⟩
    have hn0 : 0 < n := by rw [← hn]; simp
    have hnn : ((n : Int) == 0) = false := by simp; omega
    have HN := Lib.hid hn
    rw [hn] at hl1 ⊢
    have hn200 : n ≤ 200 := by omega
    clear hn h200
    go_enter Try.func83, Try.ntmps83
    go_wp2_with fail
    refine (ends_any h (sv := sv) x b _ V.out (HL.out x (by simp)) HS.out.at).mono ?_
    rintro e W1 ⟨rfl, hb1⟩
    have HB1 := Lib.hid hb1
    clear hb1
    go_wp2_with fail
    refine (follow_any h sv (.slice (some ⟨cb, off, none⟩) n cap) (src h x) (x :: l) V.out HL.out (by rw [HN.out]; exact hn200) b r _ (HS.out.ext HB1.out) (HN.out ▸ HV.out.ext HB1.out)).mono ?_
    rintro e W2 ⟨rfl, hb2⟩
    have HB2 := Lib.hid (HB1.out.trans' hb2)
    clear hb2
    have hdef : isRingM h (x :: l) = ((fol h 0 (src h x) (x :: l)).2.2 && decide ((fol h 0 (src h x) (x :: l)).2.1 = src h x) && decide ((fol h 0 (src h x) (x :: l)).1 < 0)) := rfl
    have HD := Lib.hid hdef
    clear hdef
    generalize fol h 0 (src h x) (x :: l) = R at *
    obtain ⟨R1, R2, R3⟩ := R
    cases R3
    · go_wp2_with fail
      go_ret
      exact ⟨ret_bool (by rw [HD.out]; simp), HB2.out⟩
    · by_cases h2 : R2 = src h x
      · have h2' : (R2 == src h x) = true := by simpa using h2
        go_wp2_with fail
        go_ret
        exact ⟨ret_bool (by rw [HD.out]; simp [h2]), HB2.out⟩
      · have h2' : (R2 == src h x) = false := by simpa using h2
        go_wp2_with fail
        go_ret
        exact ⟨ret_bool (by rw [HD.out]; simp [h2]), HB2.out⟩

theorem any_odd {h : Hall} {l : List Stp} (e : l.any (oddS h) = false) : ∀ x ∈ l, okStp h x = true := fun x hx => by
  have := List.any_eq_false.1 e x hx
  simpa [oddS] using this

set_option maxHeartbeats 1000000 in
theorem checkWay_any (h : Hall) (sv lv : Value) (f t : Int) (l : List Stp) (w : World) (hs : IsCnts w sv h.cs) (hv : IsStps w lv l) :
    Calls Try.prog 28 #[.agg #[.int .i64 h.n, .int .i64 h.most, sv], .int .i64 f, .int .i64 t, lv] w fun e w' =>
      e = .returned (.tuple #[.int .i64 (wayE h f t l).1, .int .i64 (wayE h f t l).2]) ∧ Ext w w' := by
  obtain ⟨ca, ccap, rfl, hm1, hm2, -⟩ := hs.spec
  obtain ⟨sa, cap, rfl, hl1, hl2, -⟩ := hv.spec
  have HS := Lib.hid hs
  have HV := Lib.hid hv
  clear hs hv
  go_enter Try.func28, Try.ntmps28
  go_wp2_with fail
  by_cases ho : openE h [f, t] = 0
  · have hc : chk h = 0 := by
      unfold openE at ho
      by_cases e : chk h = 0
      · exact e
      · simp [e] at ho
    have V := Lib.hid (valid_of_chk hc)
    refine (open_ok h (.slice ca h.cs.length ccap) _ [f, t] _ (HS.out.ext (by repeat (first | exact Below.refl _ _ | refine Ext.al ?_ _ | refine Ext.dr ?_ | refine Ext.drN ?_ _ | refine Ext.gr ?_ _ | refine Ext.set ?_ (by simp) _ | (refine Ext.trans' ?_ (by assumption))))) (isInts_two (by omega) (by omega) (by simp [go_sem]) (by simp [go_sem])) ho).mono ?_
    rintro e W1 ⟨b, r, rfl, hb1, hsh⟩
    have hE1 : Ext w W1 := Ext.trans' (by repeat (first | exact Below.refl _ _ | refine Ext.al ?_ _ | refine Ext.dr ?_ | refine Ext.drN ?_ _ | refine Ext.gr ?_ _ | refine Ext.set ?_ (by simp) _ | (refine Ext.trans' ?_ (by assumption)))) hb1
    have HE1 := Lib.hid hE1
    have HSh := Lib.hid hsh
    clear hb1 hsh hE1
    by_cases h200 : 200 < l.length
    · have h200' : decide ((200 : Int) < (l.length : Int)) = true := by simp; omega
      go_wp2_with fail
      refine bodyPost_ret (v := .tuple #[.int .i64 0, .int .i64 6]) (by simp [results, Try.results28, go_sem]) rfl ?_
      exact ⟨ret_ii (by simp [wayE, ho, h200]) (by simp [wayE, ho, h200]), HE1.out⟩
    · have h200' : decide ((200 : Int) < (l.length : Int)) = false := by simp; omega
      go_wp2_with fail
      refine (containsFuncStpB l sa cap 71 #[.pointer (some ⟨b, 0, none⟩)] #[] (oddS h) _ (by omega) (HV.out.ext HE1.out).opened
        (fun args W => Try.call71 args W) (fun x _ W hW => odd_any h _ x b r W (HSh.out.ext hW))).mono ?_
      rintro e W2 ⟨rfl, hb2⟩
      have HE2 := Lib.hid (HE1.out.trans' hb2)
      have HSh2 := Lib.hid (HSh.out.ext hb2)
      clear hb2
      cases hodd : l.any (oddS h)
      · go_wp2_with fail
        refine (follow_any h _ (.slice sa l.length cap) f l V.out (any_odd hodd) (by omega) b r _ HSh2.out (HV.out.ext HE2.out)).mono ?_
        rintro e W3 ⟨rfl, hb3⟩
        have HE3 := Lib.hid (HE2.out.trans' hb3)
        clear hb3
        have hdef : wayE h f t l = if (fol h 0 f l).2.2 = true ∧ (fol h 0 f l).2.1 = t then ((fol h 0 f l).1, 0) else (0, 16) := by
          simp only [wayE, ho, h200, hodd]; simp
        have HD := Lib.hid hdef
        clear hdef
        generalize fol h 0 f l = R at *
        obtain ⟨R1, R2, R3⟩ := R
        cases R3
        · go_wp2_with fail
          refine bodyPost_ret (v := .tuple #[.int .i64 0, .int .i64 16]) (by simp [results, Try.results28, go_sem]) rfl ?_
          exact ⟨by rw [HD.out]; simp, HE3.out⟩
        · by_cases h2 : R2 = t
          · have h2' : (R2 == t) = true := by simpa using h2
            go_wp2_with fail
            refine bodyPost_ret (v := .tuple #[.int .i64 R1, .int .i64 0]) (by simp [results, Try.results28, go_sem]) rfl ?_
            exact ⟨by rw [HD.out]; simp [h2], HE3.out⟩
          · have h2' : (R2 == t) = false := by simpa using h2
            go_wp2_with fail
            refine bodyPost_ret (v := .tuple #[.int .i64 0, .int .i64 16]) (by simp [results, Try.results28, go_sem]) rfl ?_
            exact ⟨by rw [HD.out]; simp [h2], HE3.out⟩
      · go_wp2_with fail
        refine bodyPost_ret (v := .tuple #[.int .i64 0, .int .i64 3]) (by simp [results, Try.results28, go_sem]) rfl ?_
        exact ⟨ret_ii (by simp [wayE, ho, h200, hodd]) (by simp [wayE, ho, h200, hodd]), HE2.out⟩
  · refine (open_bad h (.slice ca h.cs.length ccap) _ [f, t] _ (HS.out.ext (by repeat (first | exact Below.refl _ _ | refine Ext.al ?_ _ | refine Ext.dr ?_ | refine Ext.drN ?_ _ | refine Ext.gr ?_ _ | refine Ext.set ?_ (by simp) _ | (refine Ext.trans' ?_ (by assumption))))) (isInts_two (by omega) (by omega) (by simp [go_sem]) (by simp [go_sem])) ho).mono ?_
    rintro e W1 ⟨rfl, hb1⟩
    have ho' : (openE h [f, t] == 0) = false := by simpa using ho
    go_wp2_with fail
    refine bodyPost_ret (v := .tuple #[.int .i64 0, .int .i64 (openE h [f, t])]) (by simp [results, Try.results28, go_sem]) rfl ?_
    exact ⟨ret_ii (by simp [wayE, ho]) (by simp [wayE, ho]), (by repeat (first | exact Below.refl _ _ | refine Ext.al ?_ _ | refine Ext.dr ?_ | refine Ext.drN ?_ _ | refine Ext.gr ?_ _ | refine Ext.set ?_ (by simp) _ | (refine Ext.trans' ?_ (by assumption))))⟩
end Go.Proofs.Ytgcldgchhdjnhaa
namespace Go.Proofs.Ytgcldgchhdjnhaa
open Go.RowKit Go.Shelf

set_option maxHeartbeats 2000000 in
theorem checkTruth_any (h : Hall) (sv tv : Value) (t : List Int) (w : World) (hs : IsCnts w sv h.cs) (ht : IsInts w .i64 tv t) :
    Calls Try.prog 22 #[.agg #[.int .i64 h.n, .int .i64 h.most, sv], tv] w fun e w' => e = .returned (.int .i64 (truthE h t)) ∧ Ext w w' := by
  obtain ⟨sa, cap, rfl, hl1, hl2, -⟩ := hs.spec
  obtain ⟨ta, tcap, rfl, hm1, hm2, -⟩ := ht.spec
  have HS := Lib.hid hs
  have HT := Lib.hid ht
  clear hs ht
  by_cases hc : chk h = 0
  rotate_left
  · go_enter Try.func22, Try.ntmps22
    go_wp2_with fail
    refine (open_bad h (.slice sa h.cs.length cap) (.slice none 0 0) [] _ (HS.out.ext (by repeat (first | exact Below.refl _ _ | refine Ext.al ?_ _ | refine Ext.dr ?_ | refine Ext.drN ?_ _ | refine Ext.gr ?_ _ | refine Ext.set ?_ (by simp) _ | (refine Ext.trans' ?_ (by assumption))))) (IsInts.nil _ _) (by rw [openE_nil]; exact hc)).mono ?_
    rintro e W1 ⟨rfl, hb1⟩
    rw [openE_nil]
    have hc' : (chk h == 0) = false := by simpa using hc
    go_wp2_with fail
    go_ret
    exact ⟨ret_int (by simp [truthE, hc]), (by repeat (first | exact Below.refl _ _ | refine Ext.al ?_ _ | refine Ext.dr ?_ | refine Ext.drN ?_ _ | refine Ext.gr ?_ _ | refine Ext.set ?_ (by simp) _ | (refine Ext.trans' ?_ (by assumption))))⟩
  have v := valid_of_chk hc
  have n1 := v.n1
  have n10 := v.n10
  have m0 := v.m0
  have m1 := v.m1
  have V := Lib.hid v
  clear v
  go_enter Try.func22, Try.ntmps22
  go_wp2_with fail
  refine (open_ok h (.slice sa h.cs.length cap) (.slice none 0 0) [] _ (HS.out.ext (by repeat (first | exact Below.refl _ _ | refine Ext.al ?_ _ | refine Ext.dr ?_ | refine Ext.drN ?_ _ | refine Ext.gr ?_ _ | refine Ext.set ?_ (by simp) _ | (refine Ext.trans' ?_ (by assumption))))) (IsInts.nil _ _) (by rw [openE_nil]; exact hc)).mono ?_
  rintro e W1 ⟨b, r, rfl, hb1, hsh⟩
  have k0 := cell_ext hb1 (a := ⟨w.heap.size, 0, none⟩) (v := .int .i64 h.n) (by simp [go_sem])
  have k1 := cell_ext hb1 (a := ⟨w.heap.size, 1, none⟩) (v := .int .i64 h.most) (by simp [go_sem])
  have k2 := cell_ext hb1 (a := ⟨w.heap.size, 2, none⟩) (v := .slice sa h.cs.length cap) (by simp [go_sem])
  have hE1 : Ext w W1 := (by repeat (first | exact Below.refl _ _ | refine Ext.al ?_ _ | refine Ext.dr ?_ | refine Ext.drN ?_ _ | refine Ext.gr ?_ _ | refine Ext.set ?_ (by simp) _ | (refine Ext.trans' ?_ (by assumption))))
  have HE1 := Lib.hid hE1
  clear hb1 hsh hE1
  by_cases hlen : (t.length : Int) = h.n
  rotate_left
  · have hl' : ((t.length : Int) == h.n) = false := by simpa using hlen
    go_wp2_with fail
    go_ret
    exact ⟨ret_int (by simp [truthE, hc, hlen]), HE1.out⟩
  have hl' : ((t.length : Int) == h.n) = true := by simpa using hlen
  go_wp2_with fail
  refine (within_any 0 h.most (.slice ta t.length tcap) t _ (HT.out.ext HE1.out)).mono ?_
  rintro e W2 ⟨rfl, hb2⟩
  replace k0 := cell_ext hb2 k0
  replace k1 := cell_ext hb2 k1
  replace k2 := cell_ext hb2 k2
  have HE2 := Lib.hid (HE1.out.trans' hb2)
  clear hb2
  cases hall : t.all (inR 0 h.most)
  · go_wp2_with fail
    go_ret
    exact ⟨ret_int (by simp [truthE, hc, hlen, hall]), HE2.out⟩
  have hall' : ∀ x ∈ t, 0 ≤ x ∧ x ≤ h.most := fun x hx => by
    have := List.all_eq_true.1 hall x hx
    simp [inR] at this
    omega
  have HA := Lib.hid hall'
  clear hall'
  go_wp2_with fail
  go_loopw [36] (fun i W => ∃ k : Nat, k ≤ h.cs.length ∧ i = .int .i64 k ∧ (∀ c ∈ h.cs.take k, offC t c = false) ∧ Ext W2 W) (fun i _ => h.cs.length - (intOf i).toNat)
  case atStart => exact ⟨0, Nat.zero_le _, rfl, by simp, Below.refl _ _⟩
  case round =>
    obtain ⟨k, hk, rfl, hno, hb⟩ := hrel
    have HN := Lib.hid hno
    have HB := Lib.hid hb
    have HX := Lib.hid (HE2.out.trans' hb)
    clear hno hb
    by_cases hlt : k < h.cs.length
    · rcases (HS.out.ext HX.out).opened with e | ⟨cb, coff, rfl, hcc⟩
      · simp [e] at hlt
      obtain ⟨c0, c1, c2, c3⟩ := hcc k hlt
      clear hcc
      have hcv := V.out.cs h.cs[k] (List.getElem_mem hlt)
      obtain ⟨f, hf⟩ : ∃ f : Nat, h.cs[k].f = f := ⟨h.cs[k].f.toNat, by omega⟩
      obtain ⟨g, hg⟩ : ∃ g : Nat, h.cs[k].t = g := ⟨h.cs[k].t.toNat, by omega⟩
      have HF := Lib.hid hf
      have HG := Lib.hid hg
      have hfg : f ≤ g := by omega
      have hgl : g < t.length := by omega
      rcases (HT.out.ext HX.out).spec with ⟨ta', tcap', te, _, _, ht3⟩
      cases te
      rcases ht3 with e | ⟨tb, toff, rfl, htc⟩
      · simp [e] at hgl
      have htl : tcap ≤ 9223372036854775807 := hm2
      rw [hf] at c0
      rw [hg] at c1
      have HTC := Lib.hid htc
      clear htc hf hg hcv
      go_wp2_with fail
      obtain ⟨w1, rfl⟩ : ∃ w1 : World, w1 = wr := ⟨_, rfl⟩
      have hE1 : Ext w1 (w1.alloc (.cells #[.int .i64 (f : Int), .int .i64 (g : Int), .int .i64 h.cs[k].lo, .int .i64 h.cs[k].hi] 70)) := (by repeat (first | exact Below.refl _ _ | refine Ext.al ?_ _ | refine Ext.dr ?_ | refine Ext.drN ?_ _ | refine Ext.gr ?_ _ | refine Ext.set ?_ (by simp) _ | (refine Ext.trans' ?_ (by assumption))))
      have d2 : (w1.alloc (.cells #[.int .i64 (f : Int), .int .i64 (g : Int), .int .i64 h.cs[k].lo, .int .i64 h.cs[k].hi] 70)).cell? ⟨w1.heap.size, 2, none⟩ = some (.int .i64 h.cs[k].lo) := by simp [go_sem]
      have d3 : (w1.alloc (.cells #[.int .i64 (f : Int), .int .i64 (g : Int), .int .i64 h.cs[k].lo, .int .i64 h.cs[k].hi] 70)).cell? ⟨w1.heap.size, 3, none⟩ = some (.int .i64 h.cs[k].hi) := by simp [go_sem]
      have HD2 := Lib.hid d2
      have HD3 := Lib.hid d3
      have HE1' := Lib.hid hE1
      have HK2 := Lib.hid k2
      clear d2 d3 hE1 c0 c1 c2 c3 k2 k0 k1
      obtain ⟨u, hu⟩ : ∃ u : List Int, u = (t.drop f).take (g + 1 - f) := ⟨_, rfl⟩
      have hul : u.length = g + 1 - f := by rw [hu]; simp; omega
      have hui : ∀ j, (hj : j < u.length) → w1.cell? ⟨tb, toff + f + j, none⟩ = some (.int .i64 u[j]) := fun j hj => by
        have := HTC.out (f + j) (by omega)
        rw [← Nat.add_assoc] at this
        rw [this]
        congr 2
        subst hu
        simp
      have hub : ∀ x ∈ u, 0 ≤ x ∧ x ≤ h.most := fun x hx => HA.out x (by subst hu; exact List.mem_of_mem_drop (List.mem_of_mem_take hx))
      have hsm : sm t h.cs[k].f h.cs[k].t = u.sum := by
        unfold sm
        rw [HF.out, HG.out, hu]
        congr 2
        omega
      have HSM := Lib.hid hsm
      have HUI := Lib.hid hui
      have HUB := Lib.hid hub
      have HUL := Lib.hid hul
      have hmul : h.most * u.length ≤ 10000000 := by
        have : (u.length : Int) ≤ 10 := by omega
        have h1 : h.most * u.length ≤ 1000000 * u.length := Int.mul_le_mul_of_nonneg_right m1 (by omega)
        omega
      have HMUL := Lib.hid hmul
      have hgf : g + 1 - f = u.length := by omega
      have hu10 : u.length ≤ 10 := by omega
      clear hu hsm hui hub hmul
      rw [hgf]
      clear hul hgf
      go_loopw [9, 48] (fun s i W => ∃ j : Nat, j ≤ u.length ∧ i = .int .i64 j ∧ s = .int .i64 (u.take j).sum ∧ Ext (w1.alloc (.cells #[.int .i64 (f : Int), .int .i64 (g : Int), .int .i64 h.cs[k].lo, .int .i64 h.cs[k].hi] 70)) W) (fun _ i _ => u.length - (intOf i).toNat)
      case atStart => exact ⟨0, Nat.zero_le _, rfl, by simp, Below.refl _ _⟩
      case round =>
        obtain ⟨j, hj, rfl, rfl, hb⟩ := hrel
        have hlu : (u.take j).length ≤ u.length := by simp; omega
        have hbd := sum_bd (u.take j) h.most fun x hx => HUB.out x (List.mem_of_mem_take hx)
        have hbd2 : h.most * (u.take j).length ≤ h.most * u.length := Int.mul_le_mul_of_nonneg_left (by omega) m0
        have hml := HMUL.out
        obtain ⟨b1, b2⟩ := hbd
        have b3 : (u.take j).sum ≤ 10000000 := by omega
        clear b2 hbd2 hml hlu
        by_cases hlj : j < u.length
        · have hcj := cell_ext HE1'.out (HUI.out j hlj)
          replace hcj := cell_ext hb hcj
          have hx := HUB.out u[j] (List.getElem_mem hlj)
          obtain ⟨x1, x2⟩ := hx
          have HB2 := Lib.hid hb
          clear hb
          go_wp2_with fail
          go_roundw
          case rel => exact ⟨j + 1, by omega, by go_num, by rw [sum_take_succ u j hlj], HB2.out⟩
          case measure => simp [intOf]; omega
        · obtain rfl : j = u.length := by omega
          have d2 := cell_ext hb HD2.out
          have d3 := cell_ext hb HD3.out
          have hEr : Ext W2 wr := Ext.trans' (HB.out.trans' HE1'.out) hb
          have HER := Lib.hid hEr
          have hk2 := cell_ext hEr HK2.out
          have e : u.take u.length = u := List.take_length
          rw [e] at b1 b3 ⊢
          clear hb hEr
          go_wp2_with fail
          refine (within_any h.cs[k].lo h.cs[k].hi _ [u.sum] _ (isInts_one (by omega) (by omega) (by simp [go_sem]))).mono ?_
          rintro e W4 ⟨rfl, hb4⟩
          have hof : [u.sum].all (inR h.cs[k].lo h.cs[k].hi) = !(offC t h.cs[k]) := by simp [offC, HSM.out]
          rw [hof]
          cases hp : offC t h.cs[k]
          · go_wp2_with fail
            go_roundw
            case rel => exact ⟨k + 1, by omega, by go_num, take_ext hlt HN.out hp, Ext.trans' (Ext.al HER.out _) hb4⟩
            case measure => simp [intOf]; omega
          · go_wp2_with fail
            go_ret
            exact ⟨ret_int (by simp only [truthE, hc, hlen, hall, any_of_at hlt hp]; simp), Ext.trans' (Ext.al (HE2.out.trans' HER.out) _) hb4⟩
    · go_wp2_with fail
      go_ret
      exact ⟨ret_int (by simp [truthE, hc, hlen, hall, any_of_none (take_all hlt HN.out)]), HX.out⟩
end Go.Proofs.Ytgcldgchhdjnhaa
