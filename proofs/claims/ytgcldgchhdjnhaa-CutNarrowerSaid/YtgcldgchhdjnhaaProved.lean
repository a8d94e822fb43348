/-
  The statement CutProved holds: the sum of a way from one place to another one that is behind it is at least the Hi of the span of the windows between, that of a way back, with the sign changed, at most its Lo; those of the ways that are returned are just these; for every hall, any two numbers and any steps that are handed in. No condition.
-/
import Derived.Test.YtgcldgchhdjnhaaEither
import Derived.Test.YtgcldgchhdjnhaaMath2
namespace Go.Proofs.Ytgcldgchhdjnhaa
open Go.RowKit Go.Shelf
theorem wayErr_agr {h : Hall} (v : Valid h) {a b : Nat} (ha : (a : Int) ≤ h.n) (hb : (b : Int) ≤ h.n) : wayErr h a b = if (leastM h 0).2 then 0 else 5 := by
  have ho : openE h [(a : Int), (b : Int)] = 0 := by
    unfold openE
    rw [if_neg (fun hh => hh (chk_of_valid v)), if_neg]
    simp [oddP]; omega
  unfold wayErr
  rw [if_neg (fun hh => hh ho), Int.toNat_natCast, agree_st v ha]
theorem openE_ok {h : Hall} (v : Valid h) {a b : Nat} (ha : (a : Int) ≤ h.n) (hb : (b : Int) ≤ h.n) : openE h [(a : Int), (b : Int)] = 0 := by
  unfold openE
  rw [if_neg (fun hh => hh (chk_of_valid v)), if_neg]
  simp [oddP]; omega
theorem spanE_agr {h : Hall} (v : Valid h) {a b : Nat} (ha : a ≤ b) (hb : (b : Int) < h.n) : spanE h a b = if (leastM h 0).2 then 0 else 5 := by
  unfold spanE
  rw [if_neg (fun hh => hh (chk_of_valid v)), if_neg (by omega), Int.toNat_natCast, agree_st v (by omega)]
theorem spanLo_agr {h : Hall} (v : Valid h) (g : (leastM h 0).2 = true) {a b : Nat} (ha : a ≤ b) (hb : (b : Int) < h.n) : spanLo h a b = -ds h (b + 1) a := by
  unfold spanLo
  rw [if_pos (by rw [spanE_agr v ha hb, if_pos g]), Int.toNat_natCast, Int.toNat_natCast]; rfl
theorem spanHi_agr {h : Hall} (v : Valid h) (g : (leastM h 0).2 = true) {a b : Nat} (ha : a ≤ b) (hb : (b : Int) < h.n) : spanHi h a b = ds h a (b + 1) := by
  unfold spanHi
  rw [if_pos (by rw [spanE_agr v ha hb, if_pos g]), Int.toNat_natCast, Int.toNat_natCast]; rfl
theorem span_not {h : Hall} (v : Valid h) (g : (leastM h 0).2 = false) {a b : Nat} (ha : a ≤ b) (hb : (b : Int) < h.n) : spanE h a b = 5 ∧ spanLo h a b = 0 ∧ spanHi h a b = 0 := by
  have e : spanE h a b = 5 := by rw [spanE_agr v ha hb, g]; rfl
  refine ⟨e, ?_, ?_⟩
  · unfold spanLo; rw [if_neg (by omega)]
  · unfold spanHi; rw [if_neg (by omega)]
theorem wayE_inv {h : Hall} {f t : Int} {l : List Stp} (e : (wayE h f t l).2 = 0) : IsW h f l t ∧ (wayE h f t l).1 = (l.map (cost h)).sum := by
  unfold wayE at e ⊢
  by_cases h1 : openE h [f, t] ≠ 0
  · rw [if_pos h1] at e; exact absurd e h1
  rw [if_neg h1] at e ⊢
  by_cases h2 : 200 < l.length
  · rw [if_pos h2] at e; simp at e
  rw [if_neg h2] at e ⊢
  by_cases h3 : l.any (oddS h) = true
  · rw [if_pos h3] at e; simp at e
  rw [if_neg h3] at e ⊢
  by_cases h4 : (fol h 0 f l).2.2 = true ∧ (fol h 0 f l).2.1 = t
  · rw [if_pos h4]
    have ok : ∀ x ∈ l, okStp h x = true := fun x hx => by
      cases hx2 : okStp h x with
      | true => rfl
      | false => exact absurd (by simp; exact ⟨x, hx, by simp [oddS, hx2]⟩) h3
    have hw := isW_of_fol ok h4.1
    rw [h4.2] at hw
    refine ⟨hw, ?_⟩
    rw [hw.2 0]; simp
  · rw [if_neg h4] at e; simp at e
theorem wayE_bd {h : Hall} (v : Valid h) (f t : Int) (l : List Stp) : -2000000000 ≤ (wayE h f t l).1 ∧ (wayE h f t l).1 ≤ 2000000000 := by
  unfold wayE
  by_cases h1 : openE h [f, t] ≠ 0
  · rw [if_pos h1]; simp
  rw [if_neg h1]
  by_cases h2 : 200 < l.length
  · rw [if_pos h2]; simp
  rw [if_neg h2]
  by_cases h3 : l.any (oddS h) = true
  · rw [if_pos h3]; simp
  rw [if_neg h3]
  have ok : ∀ x ∈ l, okStp h x = true := fun x hx => by
    cases hx2 : okStp h x with
    | true => rfl
    | false => exact absurd (by simp; exact ⟨x, hx, by simp [oddS, hx2]⟩) h3
  have := fol_bd v l 0 f 0 ok (by omega) (by omega) (by omega)
  split
  · simp only; omega
  · simp
/-- a number below another one, out of a number of eight bits -/
theorem modN {f n : Int} (_ : 0 ≤ f) (hn : 1 ≤ n) : ∃ A : Nat, f % n = A ∧ (A : Int) < n := by
  have h1 := Int.emod_nonneg f (by omega : n ≠ 0)
  have h2 := Int.emod_lt_of_pos f (by omega : 0 < n)
  exact ⟨(f % n).toNat, by omega, by omega⟩
set_option maxRecDepth 100000 in
set_option maxHeartbeats 4000000 in
theorem cutProved_any (h : Hall) (sv : Value) (f t : Int) (lv : Value) (l : List Stp) (w : World) (hs : IsCnts w sv h.cs) (wf : (Lit.int .u8 f).wf = true) (wt : (Lit.int .u8 t).wf = true) (hl : IsStps w lv l) :
    Calls Try.prog 10 #[.agg #[.int .i64 h.n, .int .i64 h.most, sv], .int .u8 f, .int .u8 t, lv] w fun e w' => e = .returned (.bool true) ∧ Ext w w' := by
  obtain ⟨sa, cap, rfl, hl1, hl2, -⟩ := hs.spec
  obtain ⟨la, lcap, rfl, hm3, hm4, -⟩ := hl.spec
  obtain ⟨f0, f1⟩ := bounds_u8 wf
  obtain ⟨t0, t1⟩ := bounds_u8 wt
  have HS0 := Lib.hid hs
  have HL0 := Lib.hid hl
  clear hs hl wf wt
  go_enter Try.func10, Try.ntmps10
  go_upto_region 1 with (fail)
  obtain ⟨W0, hW0⟩ : ∃ W0, W0 = w.alloc (.cells #[.int .i64 h.n, .int .i64 h.most, .slice sa h.cs.length cap] 24) := ⟨_, rfl⟩
  have hE : Ext w W0 := by rw [hW0]; exact (by repeat (first | exact Below.refl _ _ | refine Ext.al ?_ _ | refine Ext.dr ?_ | refine Ext.drN ?_ _ | refine Ext.gr ?_ _ | refine Ext.set ?_ (by simp) _ | (refine Ext.trans' ?_ (by assumption))))
  have k0 : W0.cell? ⟨w.heap.size, 0, none⟩ = some (.int .i64 h.n) := by rw [hW0]; simp [go_sem]
  have k1 : W0.cell? ⟨w.heap.size, 1, none⟩ = some (.int .i64 h.most) := by rw [hW0]; simp [go_sem]
  have k2 : W0.cell? ⟨w.heap.size, 2, none⟩ = some (.slice sa h.cs.length cap) := by rw [hW0]; simp [go_sem]
  have hz : w.heap.size < W0.heap.size := World.block_lt_of_cell? _ _ k0
  have HS := Lib.hid (HS0.out.ext hE)
  have HW := Lib.hid hE
  rw [← hW0]
  clear hW0 HS0
  have HL := Lib.hid (HL0.out.ext hE)
  clear hE HL0


  go_wp2_with fail
  refine callW (W0 := W0) (g := ⟨W0, Below.refl _ _⟩) (by exact (by repeat (first | exact Below.refl _ _ | refine Ext.al ?_ _ | refine Ext.dr ?_ | refine Ext.drN ?_ _ | refine Ext.gr ?_ _ | refine Ext.set ?_ (by simp) _ | (refine Ext.trans' ?_ (by assumption))))) (fine_any h _ _ (HS.out.ext (by exact (by repeat (first | exact Below.refl _ _ | refine Ext.al ?_ _ | refine Ext.dr ?_ | refine Ext.drN ?_ _ | refine Ext.gr ?_ _ | refine Ext.set ?_ (by simp) _ | (refine Ext.trans' ?_ (by assumption))))))) fun g1 hgr => ?_
  clear hgr
  by_cases hc : chk h = 0
  rotate_left
  · rw [show (chk h == 0) = false by simpa using hc]
    clear hc

    go_wp2_with fail
    refine callW (W0 := W0) (g := g1) (by exact (by repeat (first | exact Below.refl _ _ | refine Ext.al ?_ _ | refine Ext.dr ?_ | refine Ext.drN ?_ _ | refine Ext.gr ?_ _ | refine Ext.set ?_ (by simp) _ | (refine Ext.trans' ?_ (by assumption))))) (works_any _) fun g2 hgr => ?_
    clear hgr
    go_wp2_with fail
    go_ret
    exact ⟨rfl, HW.out.trans' (grow_below W0 g2)⟩

  rw [show (chk h == 0) = true by simpa using hc]
  by_cases h40 : 40 < l.length
  · have h40' : decide ((40 : Int) < (l.length : Int)) = true := decide_eq_true (by omega)
    clear h40 hc

    go_wp2_with fail
    refine callW (W0 := W0) (g := g1) (by exact (by repeat (first | exact Below.refl _ _ | refine Ext.al ?_ _ | refine Ext.dr ?_ | refine Ext.drN ?_ _ | refine Ext.gr ?_ _ | refine Ext.set ?_ (by simp) _ | (refine Ext.trans' ?_ (by assumption))))) (works_any _) fun g3 hgr => ?_
    clear hgr
    go_wp2_with fail
    go_ret
    exact ⟨rfl, HW.out.trans' (grow_below W0 g3)⟩

  have h40' : decide ((40 : Int) < (l.length : Int)) = false := decide_eq_false (by omega)
  have V := Lib.hid (valid_of_chk hc)
  have n1 := V.out.n1
  have n10 := V.out.n10
  clear h40 hc
  obtain ⟨A, hA, hAn⟩ := modN f0 n1
  obtain ⟨T, hT, hTn⟩ := modN (n := h.n - A) t0 (by omega)
  obtain ⟨B, hB⟩ : ∃ B : Nat, (A : Int) + 1 + T = B := ⟨A + 1 + T, by omega⟩
  have hAB : A < B := by omega
  have hBn : (B : Int) ≤ h.n := by omega
  have hab : 0 ≤ (B : Int) - 1 := by omega
  go_upto_region 5 with (fail)
  simp only [hA, hT]
  clear hA hT hB f0 f1 t0 t1
  obtain ⟨B', hB'⟩ : ∃ B' : Nat, B = B' + 1 := ⟨B - 1, by omega⟩
  have e1 : (B : Int) - 1 = B' := by omega
  have c1 := fun w hs => span_any h (.slice sa h.cs.length cap) (A : Int) (B' : Int) w hs
  have c2 := fun w hs => way_fin h (.slice sa h.cs.length cap) (A : Int) (B : Int) w hs
  have c3 := fun w hs => way_fin h (.slice sa h.cs.length cap) (B : Int) (A : Int) w hs
  have ew1 := wayErr_agr V.out (a := A) (b := B) (by omega) (by omega)
  have ew2 := wayErr_agr V.out (a := B) (b := A) (by omega) (by omega)
  cases hag : (leastM h 0).2
  · obtain ⟨q1, q2, q3⟩ := span_not V.out hag (a := A) (b := B') (by omega) (by omega)
    rw [q1, q2, q3] at c1
    rw [hag] at ew1 ew2
    replace ew1 : wayErr h A B = 5 := ew1
    replace ew2 : wayErr h B A = 5 := ew2
    unfold RetWay at c2 c3
    rw [ew1] at c2
    rw [ew2] at c3
    have hp1 : ∀ l, WayOk h A B l → l = [] := fun l hl => hl.2 (by omega)
    have hp2 : ∀ l, WayOk h B A l → l = [] := fun l hl => hl.2 (by omega)
    have C1 := Lib.hid c1
    have C2 := Lib.hid c2
    have C3 := Lib.hid c3
    have P1 := Lib.hid hp1
    have P2 := Lib.hid hp2
    clear c1 c2 c3 q1 q2 q3 ew1 ew2 hag hp1 hp2 hB'

    go_wp2_with fail
    refine callW (W0 := W0) (g := g1) (by exact (by repeat (first | exact Below.refl _ _ | refine Ext.al ?_ _ | refine Ext.dr ?_ | refine Ext.drN ?_ _ | refine Ext.gr ?_ _ | refine Ext.set ?_ (by simp) _ | (refine Ext.trans' ?_ (by assumption))))) (C1.out _ (HS.out.ext (by exact (by repeat (first | exact Below.refl _ _ | refine Ext.al ?_ _ | refine Ext.dr ?_ | refine Ext.drN ?_ _ | refine Ext.gr ?_ _ | refine Ext.set ?_ (by simp) _ | (refine Ext.trans' ?_ (by assumption))))))) fun g4 hgr => ?_
    clear hgr
    go_wp2_with fail
    refine callWR (W0 := W0) (g := g4) (by exact (by repeat (first | exact Below.refl _ _ | refine Ext.al ?_ _ | refine Ext.dr ?_ | refine Ext.drN ?_ _ | refine Ext.gr ?_ _ | refine Ext.set ?_ (by simp) _ | (refine Ext.trans' ?_ (by assumption))))) (C2.out _ (HS.out.ext (by exact (by repeat (first | exact Below.refl _ _ | refine Ext.al ?_ _ | refine Ext.dr ?_ | refine Ext.drN ?_ _ | refine Ext.gr ?_ _ | refine Ext.set ?_ (by simp) _ | (refine Ext.trans' ?_ (by assumption))))))) (fun _ _ ⟨_, _, _, r, _⟩ => r) fun _ g5 hgr hr => ?_
    obtain ⟨pv, p, rfl, -, hp, hw⟩ := hr
    clear hgr
    obtain rfl := P1.out _ hw
    obtain ⟨pa, pcap, rfl, -⟩ := hp.spec
    clear hp hw
    go_wp2_with fail
    refine callWR (W0 := W0) (g := g5) (by exact (by repeat (first | exact Below.refl _ _ | refine Ext.al ?_ _ | refine Ext.dr ?_ | refine Ext.drN ?_ _ | refine Ext.gr ?_ _ | refine Ext.set ?_ (by simp) _ | (refine Ext.trans' ?_ (by assumption))))) (C3.out _ (HS.out.ext (by exact (by repeat (first | exact Below.refl _ _ | refine Ext.al ?_ _ | refine Ext.dr ?_ | refine Ext.drN ?_ _ | refine Ext.gr ?_ _ | refine Ext.set ?_ (by simp) _ | (refine Ext.trans' ?_ (by assumption))))))) (fun _ _ ⟨_, _, _, r, _⟩ => r) fun _ g6 hgr hr => ?_
    obtain ⟨qv, q, rfl, -, hq, hw⟩ := hr
    clear hgr
    obtain rfl := P2.out _ hw
    obtain ⟨qa, qcap, rfl, -⟩ := hq.spec
    clear hq hw
    go_wp2_with fail
    refine callW (W0 := W0) (g := g6) (by exact (by repeat (first | exact Below.refl _ _ | refine Ext.al ?_ _ | refine Ext.dr ?_ | refine Ext.drN ?_ _ | refine Ext.gr ?_ _ | refine Ext.set ?_ (by simp) _ | (refine Ext.trans' ?_ (by assumption))))) (works_any _) fun g7 hgr => ?_
    clear hgr
    go_wp2_with fail
    go_ret
    exact ⟨rfl, HW.out.trans' (grow_below W0 g7)⟩

  · have g := (agr_iff V.out).1 hag
    have q1 := spanE_agr V.out (a := A) (b := B') (by omega) (by omega)
    rw [hag] at q1 ew1 ew2
    replace q1 : spanE h A B' = 0 := q1
    rw [q1, spanLo_agr V.out hag (by omega) (by omega), spanHi_agr V.out hag (by omega) (by omega), ← hB'] at c1
    replace ew1 : wayErr h A B = 0 := ew1
    replace ew2 : wayErr h B A = 0 := ew2
    obtain ⟨lo, hlo⟩ : ∃ lo, lo = ds h B A := ⟨_, rfl⟩
    obtain ⟨hi, hhi⟩ : ∃ hi, hi = ds h A B := ⟨_, rfl⟩
    have b1 := leastM_bd V.out B A
    have b2 := leastM_bd V.out A B
    rw [show (leastM h B).1.sums A = ds h B A from rfl, ← hlo] at b1
    rw [show (leastM h A).1.sums B = ds h A B from rfl, ← hhi] at b2
    obtain ⟨b11, b12⟩ := b1
    obtain ⟨b21, b22⟩ := b2
    rw [← hlo, ← hhi] at c1
    unfold RetWay at c2 c3
    rw [ew1] at c2
    rw [ew2] at c3
    have hp1 : ∀ p, WayOk h A B p → wayE h A B p = (hi, 0) := fun p hp => by
      obtain ⟨r1, r2, r3⟩ := hp.1 ew1
      rw [wayE_of (openE_ok V.out (by omega) (by omega)) (by omega) r1, r2, hhi]; rfl
    have hp2 : ∀ p, WayOk h B A p → wayE h B A p = (lo, 0) := fun p hp => by
      obtain ⟨r1, r2, r3⟩ := hp.1 ew2
      rw [wayE_of (openE_ok V.out (by omega) (by omega)) (by omega) r1, r2, hlo]; rfl
    have hl1 : (wayE h A B l).2 = 0 → hi ≤ (wayE h A B l).1 := fun e => by
      obtain ⟨r1, r2⟩ := wayE_inv e
      rw [r2, hhi]; exact way_ge V.out g (by omega) r1
    have hl2 : (wayE h B A l).2 = 0 → lo ≤ (wayE h B A l).1 := fun e => by
      obtain ⟨r1, r2⟩ := wayE_inv e
      rw [r2, hlo]; exact way_ge V.out g (by omega) r1
    have c4 := fun w hs hv => checkWay_any h (.slice sa h.cs.length cap) (.slice la l.length lcap) A B l w hs hv
    have c5 := fun w hs hv => checkWay_any h (.slice sa h.cs.length cap) (.slice la l.length lcap) B A l w hs hv
    have bb : -2000000000 ≤ (wayE h A B l).1 ∧ (wayE h A B l).1 ≤ 2000000000 ∧ -2000000000 ≤ (wayE h B A l).1 ∧ (wayE h B A l).1 ≤ 2000000000 := by
      have := wayE_bd V.out A B l
      have := wayE_bd V.out B A l
      omega
    obtain ⟨u, hu⟩ : ∃ u, u = (wayE h A B l).1 := ⟨_, rfl⟩
    obtain ⟨ue, hue⟩ : ∃ u, u = (wayE h A B l).2 := ⟨_, rfl⟩
    obtain ⟨x, hx⟩ : ∃ u, u = (wayE h B A l).1 := ⟨_, rfl⟩
    obtain ⟨xe, hxe⟩ : ∃ u, u = (wayE h B A l).2 := ⟨_, rfl⟩
    rw [← hu, ← hx] at bb
    rw [← hu, ← hue] at c4 hl1
    rw [← hx, ← hxe] at c5 hl2
    obtain ⟨u1, u2, u3, u4⟩ := bb
    have C1 := Lib.hid c1
    have C2 := Lib.hid c2
    have C3 := Lib.hid c3
    have C4 := Lib.hid c4
    have C5 := Lib.hid c5
    have P1 := Lib.hid hp1
    have P2 := Lib.hid hp2
    have L1 := Lib.hid hl1
    have L2 := Lib.hid hl2
    clear c1 c2 c3 c4 c5 q1 ew1 ew2 hag hp1 hp2 hl1 hl2 hB' g hu hue hx hxe hlo hhi

    go_wp2_with fail
    refine callW (W0 := W0) (g := g1) (by exact (by repeat (first | exact Below.refl _ _ | refine Ext.al ?_ _ | refine Ext.dr ?_ | refine Ext.drN ?_ _ | refine Ext.gr ?_ _ | refine Ext.set ?_ (by simp) _ | (refine Ext.trans' ?_ (by assumption))))) (C1.out _ (HS.out.ext (by exact (by repeat (first | exact Below.refl _ _ | refine Ext.al ?_ _ | refine Ext.dr ?_ | refine Ext.drN ?_ _ | refine Ext.gr ?_ _ | refine Ext.set ?_ (by simp) _ | (refine Ext.trans' ?_ (by assumption))))))) fun g8 hgr => ?_
    clear hgr
    go_upto_region 6 with (fail)
    obtain ⟨X0, hX0⟩ : ∃ zz9, zz9 = (grow W0 g8).alloc (.cells #[.int .i64 (-lo), .int .i64 hi] 35) := ⟨_, rfl⟩
    have x0 : X0.cell? ⟨(grow W0 g8).heap.size, 0, none⟩ = some (.int .i64 (-lo)) := by rw [hX0]; simp [go_sem]
    have x1 : X0.cell? ⟨(grow W0 g8).heap.size, 1, none⟩ = some (.int .i64 hi) := by rw [hX0]; simp [go_sem]
    have eX0 : Ext W0 X0 := by rw [hX0]; exact (by repeat (first | exact Below.refl _ _ | refine Ext.al ?_ _ | refine Ext.dr ?_ | refine Ext.drN ?_ _ | refine Ext.gr ?_ _ | refine Ext.set ?_ (by simp) _ | (refine Ext.trans' ?_ (by assumption))))
    replace k0 := cell_ext eX0 k0
    replace k1 := cell_ext eX0 k1
    replace k2 := cell_ext eX0 k2
    replace HS := Lib.hid (HS.out.ext eX0)
    replace HL := Lib.hid (HL.out.ext eX0)
    replace HW := Lib.hid (HW.out.trans' eX0)
    rw [← hX0]
    obtain ⟨bS, hbS⟩ : ∃ b, b = (grow W0 g8).heap.size := ⟨_, rfl⟩
    rw [← hbS] at x0 x1 ⊢
    replace hz := World.block_lt_of_cell? _ _ k0
    have zbS := World.block_lt_of_cell? _ _ x0
    simp only at zbS
    clear hX0 eX0 hbS
    go_wp2_with fail
    refine callWR (W0 := X0) (g := ⟨X0, Below.refl _ _⟩) (by exact (by repeat (first | exact Below.refl _ _ | refine Ext.al ?_ _ | refine Ext.dr ?_ | refine Ext.drN ?_ _ | refine Ext.gr ?_ _ | refine Ext.set ?_ (by simp) _ | (refine Ext.trans' ?_ (by assumption))))) (C2.out _ (HS.out.ext (by exact (by repeat (first | exact Below.refl _ _ | refine Ext.al ?_ _ | refine Ext.dr ?_ | refine Ext.drN ?_ _ | refine Ext.gr ?_ _ | refine Ext.set ?_ (by simp) _ | (refine Ext.trans' ?_ (by assumption))))))) (fun _ _ ⟨_, _, _, r, _⟩ => r) fun _ g9 hgr hr => ?_
    obtain ⟨pv, p, rfl, -, hp, hw⟩ := hr
    clear hgr
    have c6 := fun lv w hs hv => checkWay_any h (.slice sa h.cs.length cap) lv A B p w hs hv
    have c7 := fun lv w hs hv => checkWayR_any h (.slice sa h.cs.length cap) lv A B p w hs hv
    rw [P1.out _ hw] at c6 c7
    have C6 := Lib.hid c6
    have C7 := Lib.hid c7
    obtain ⟨pa, pcap, rfl, -⟩ := hp.spec
    have HP := Lib.hid hp
    clear hp hw c6 c7

    go_wp2_with fail
    refine callWR (W0 := X0) (g := g9) (by exact (by repeat (first | exact Below.refl _ _ | refine Ext.al ?_ _ | refine Ext.dr ?_ | refine Ext.drN ?_ _ | refine Ext.gr ?_ _ | refine Ext.set ?_ (by simp) _ | (refine Ext.trans' ?_ (by assumption))))) (C3.out _ (HS.out.ext (by exact (by repeat (first | exact Below.refl _ _ | refine Ext.al ?_ _ | refine Ext.dr ?_ | refine Ext.drN ?_ _ | refine Ext.gr ?_ _ | refine Ext.set ?_ (by simp) _ | (refine Ext.trans' ?_ (by assumption))))))) (fun _ _ ⟨_, _, _, r, _⟩ => r) fun _ g10 hgr hr => ?_
    obtain ⟨qv, q, rfl, -, hq, hw⟩ := hr
    replace HP := Lib.hid (HP.out.ext hgr)
    clear hgr
    have c8 := fun lv w hs hv => checkWay_any h (.slice sa h.cs.length cap) lv B A q w hs hv
    have c9 := fun lv w hs hv => checkWayR_any h (.slice sa h.cs.length cap) lv B A q w hs hv
    rw [P2.out _ hw] at c8 c9
    have C8 := Lib.hid c8
    have C9 := Lib.hid c9
    obtain ⟨qa, qcap, rfl, -⟩ := hq.spec
    have HQ := Lib.hid hq
    clear hq hw c8 c9

    go_wp2_with fail
    refine callW (W0 := X0) (g := g10) (by exact (by repeat (first | exact Below.refl _ _ | refine Ext.al ?_ _ | refine Ext.dr ?_ | refine Ext.drN ?_ _ | refine Ext.gr ?_ _ | refine Ext.set ?_ (by simp) _ | (refine Ext.trans' ?_ (by assumption))))) (C6.out _ _ (HS.out.ext (by exact (by repeat (first | exact Below.refl _ _ | refine Ext.al ?_ _ | refine Ext.dr ?_ | refine Ext.drN ?_ _ | refine Ext.gr ?_ _ | refine Ext.set ?_ (by simp) _ | (refine Ext.trans' ?_ (by assumption)))))) (HP.out.ext (by exact (by repeat (first | exact Below.refl _ _ | refine Ext.al ?_ _ | refine Ext.dr ?_ | refine Ext.drN ?_ _ | refine Ext.gr ?_ _ | refine Ext.set ?_ (by simp) _ | (refine Ext.trans' ?_ (by assumption))))))) fun g11 hgr => ?_
    replace HP := Lib.hid (HP.out.ext hgr)
    replace HQ := Lib.hid (HQ.out.ext hgr)
    clear hgr
    go_wp2_with fail
    refine callW (W0 := X0) (g := g11) (by exact (by repeat (first | exact Below.refl _ _ | refine Ext.al ?_ _ | refine Ext.dr ?_ | refine Ext.drN ?_ _ | refine Ext.gr ?_ _ | refine Ext.set ?_ (by simp) _ | (refine Ext.trans' ?_ (by assumption))))) (C8.out _ _ (HS.out.ext (by exact (by repeat (first | exact Below.refl _ _ | refine Ext.al ?_ _ | refine Ext.dr ?_ | refine Ext.drN ?_ _ | refine Ext.gr ?_ _ | refine Ext.set ?_ (by simp) _ | (refine Ext.trans' ?_ (by assumption)))))) (HQ.out.ext (by exact (by repeat (first | exact Below.refl _ _ | refine Ext.al ?_ _ | refine Ext.dr ?_ | refine Ext.drN ?_ _ | refine Ext.gr ?_ _ | refine Ext.set ?_ (by simp) _ | (refine Ext.trans' ?_ (by assumption))))))) fun g12 hgr => ?_
    replace HP := Lib.hid (HP.out.ext hgr)
    replace HQ := Lib.hid (HQ.out.ext hgr)
    clear hgr
    go_wp2_with fail
    refine callW (W0 := X0) (g := g12) (by exact (by repeat (first | exact Below.refl _ _ | refine Ext.al ?_ _ | refine Ext.dr ?_ | refine Ext.drN ?_ _ | refine Ext.gr ?_ _ | refine Ext.set ?_ (by simp) _ | (refine Ext.trans' ?_ (by assumption))))) (C7.out _ _ (HS.out.ext (by exact (by repeat (first | exact Below.refl _ _ | refine Ext.al ?_ _ | refine Ext.dr ?_ | refine Ext.drN ?_ _ | refine Ext.gr ?_ _ | refine Ext.set ?_ (by simp) _ | (refine Ext.trans' ?_ (by assumption)))))) (HP.out.ext (by exact (by repeat (first | exact Below.refl _ _ | refine Ext.al ?_ _ | refine Ext.dr ?_ | refine Ext.drN ?_ _ | refine Ext.gr ?_ _ | refine Ext.set ?_ (by simp) _ | (refine Ext.trans' ?_ (by assumption))))))) fun g13 hgr => ?_
    replace HP := Lib.hid (HP.out.ext hgr)
    replace HQ := Lib.hid (HQ.out.ext hgr)
    clear hgr
    go_wp2_with fail
    refine callW (W0 := X0) (g := g13) (by exact (by repeat (first | exact Below.refl _ _ | refine Ext.al ?_ _ | refine Ext.dr ?_ | refine Ext.drN ?_ _ | refine Ext.gr ?_ _ | refine Ext.set ?_ (by simp) _ | (refine Ext.trans' ?_ (by assumption))))) (C9.out _ _ (HS.out.ext (by exact (by repeat (first | exact Below.refl _ _ | refine Ext.al ?_ _ | refine Ext.dr ?_ | refine Ext.drN ?_ _ | refine Ext.gr ?_ _ | refine Ext.set ?_ (by simp) _ | (refine Ext.trans' ?_ (by assumption)))))) (HQ.out.ext (by exact (by repeat (first | exact Below.refl _ _ | refine Ext.al ?_ _ | refine Ext.dr ?_ | refine Ext.drN ?_ _ | refine Ext.gr ?_ _ | refine Ext.set ?_ (by simp) _ | (refine Ext.trans' ?_ (by assumption))))))) fun g14 hgr => ?_
    replace HP := Lib.hid (HP.out.ext hgr)
    replace HQ := Lib.hid (HQ.out.ext hgr)
    clear hgr
    go_wp2_with fail
    refine callW (W0 := X0) (g := g14) (by exact (by repeat (first | exact Below.refl _ _ | refine Ext.al ?_ _ | refine Ext.dr ?_ | refine Ext.drN ?_ _ | refine Ext.gr ?_ _ | refine Ext.set ?_ (by simp) _ | (refine Ext.trans' ?_ (by assumption))))) (C4.out _ (HS.out.ext (by exact (by repeat (first | exact Below.refl _ _ | refine Ext.al ?_ _ | refine Ext.dr ?_ | refine Ext.drN ?_ _ | refine Ext.gr ?_ _ | refine Ext.set ?_ (by simp) _ | (refine Ext.trans' ?_ (by assumption)))))) (HL.out.ext (by exact (by repeat (first | exact Below.refl _ _ | refine Ext.al ?_ _ | refine Ext.dr ?_ | refine Ext.drN ?_ _ | refine Ext.gr ?_ _ | refine Ext.set ?_ (by simp) _ | (refine Ext.trans' ?_ (by assumption))))))) fun g15 hgr => ?_
    replace HP := Lib.hid (HP.out.ext hgr)
    replace HQ := Lib.hid (HQ.out.ext hgr)
    clear hgr
    go_wp2_with fail
    refine callW (W0 := X0) (g := g15) (by exact (by repeat (first | exact Below.refl _ _ | refine Ext.al ?_ _ | refine Ext.dr ?_ | refine Ext.drN ?_ _ | refine Ext.gr ?_ _ | refine Ext.set ?_ (by simp) _ | (refine Ext.trans' ?_ (by assumption))))) (C5.out _ (HS.out.ext (by exact (by repeat (first | exact Below.refl _ _ | refine Ext.al ?_ _ | refine Ext.dr ?_ | refine Ext.drN ?_ _ | refine Ext.gr ?_ _ | refine Ext.set ?_ (by simp) _ | (refine Ext.trans' ?_ (by assumption)))))) (HL.out.ext (by exact (by repeat (first | exact Below.refl _ _ | refine Ext.al ?_ _ | refine Ext.dr ?_ | refine Ext.drN ?_ _ | refine Ext.gr ?_ _ | refine Ext.set ?_ (by simp) _ | (refine Ext.trans' ?_ (by assumption))))))) fun g16 hgr => ?_
    replace HP := Lib.hid (HP.out.ext hgr)
    replace HQ := Lib.hid (HQ.out.ext hgr)
    clear hgr
    by_cases hu0 : ue = 0
    · subst hu0
      have hu1 : hi ≤ u := L1.out rfl
      by_cases hx0 : xe = 0
      · subst hx0
        have hx1 : lo ≤ x := L2.out rfl

        go_wp2_with fail
        refine callW (W0 := X0) (g := g16) (by exact (by repeat (first | exact Below.refl _ _ | refine Ext.al ?_ _ | refine Ext.dr ?_ | refine Ext.drN ?_ _ | refine Ext.gr ?_ _ | refine Ext.set ?_ (by simp) _ | (refine Ext.trans' ?_ (by assumption))))) (works_any _) fun g17 hgr => ?_
        replace HP := Lib.hid (HP.out.ext hgr)
        replace HQ := Lib.hid (HQ.out.ext hgr)
        clear hgr
        go_wp2_with fail
        go_ret
        exact ⟨rfl, HW.out.trans' (grow_below X0 g17)⟩

      · have hx1 : (xe == 0) = false := by simpa using hx0
        have hx2 : (xe != 0) = true := by simpa using hx0
        clear hx0

        go_wp2_with fail
        refine callW (W0 := X0) (g := g16) (by exact (by repeat (first | exact Below.refl _ _ | refine Ext.al ?_ _ | refine Ext.dr ?_ | refine Ext.drN ?_ _ | refine Ext.gr ?_ _ | refine Ext.set ?_ (by simp) _ | (refine Ext.trans' ?_ (by assumption))))) (works_any _) fun g18 hgr => ?_
        replace HP := Lib.hid (HP.out.ext hgr)
        replace HQ := Lib.hid (HQ.out.ext hgr)
        clear hgr
        go_wp2_with fail
        go_ret
        exact ⟨rfl, HW.out.trans' (grow_below X0 g18)⟩

    · have hu1 : (ue == 0) = false := by simpa using hu0
      have hu2 : (ue != 0) = true := by simpa using hu0
      clear hu0
      by_cases hx0 : xe = 0
      · subst hx0
        have hx1 : lo ≤ x := L2.out rfl

        go_wp2_with fail
        refine callW (W0 := X0) (g := g16) (by exact (by repeat (first | exact Below.refl _ _ | refine Ext.al ?_ _ | refine Ext.dr ?_ | refine Ext.drN ?_ _ | refine Ext.gr ?_ _ | refine Ext.set ?_ (by simp) _ | (refine Ext.trans' ?_ (by assumption))))) (works_any _) fun g19 hgr => ?_
        replace HP := Lib.hid (HP.out.ext hgr)
        replace HQ := Lib.hid (HQ.out.ext hgr)
        clear hgr
        go_wp2_with fail
        go_ret
        exact ⟨rfl, HW.out.trans' (grow_below X0 g19)⟩

      · have hx1 : (xe == 0) = false := by simpa using hx0
        have hx2 : (xe != 0) = true := by simpa using hx0
        clear hx0

        go_wp2_with fail
        refine callW (W0 := X0) (g := g16) (by exact (by repeat (first | exact Below.refl _ _ | refine Ext.al ?_ _ | refine Ext.dr ?_ | refine Ext.drN ?_ _ | refine Ext.gr ?_ _ | refine Ext.set ?_ (by simp) _ | (refine Ext.trans' ?_ (by assumption))))) (works_any _) fun g20 hgr => ?_
        replace HP := Lib.hid (HP.out.ext hgr)
        replace HQ := Lib.hid (HQ.out.ext hgr)
        clear hgr
        go_wp2_with fail
        go_ret
        exact ⟨rfl, HW.out.trans' (grow_below X0 g20)⟩


open Go.ChangeShapes Go.WideShapes Go.ChangeAt in
set_option maxRecDepth 100000 in
theorem cutProved_lifted (os : Os) (started : os.Started) (H : Type) (enc : TypeId × Value → H) :
    ReturnsInHanded {} Try.checked os 10 .any (Rows.cutProvedSpec.pre6 enc Try.prog Try.f10 Rows.cutProvedRow.domain false) (Rows.cutProvedSpec.post enc Try.prog Try.f10 false true false false) := by
  refine returnsInHanded_of_change (C := Try.checked) own started (by kernel_rfl) Try.func10
    (ChangeSpec.witness6 (enc := enc) (C := Try.checked) false ⟨#[], #[.agg #[.int .i64 0, .int .i64 0, .slice none 0 0], .int .u8 0, .int .u8 0, .slice none 0 0], []⟩ 8 (by kernel_rfl) (by kernel_rfl) (by kernel_rfl) (by kernel_rfl)) ?_
  intro W base args ds gs before hval0 hW hcnd _
  have hval : ∀ (j : Nat) t v, Try.f10.params[j]? = some t → args[j]? = some v → Value.okWide Try.prog W .any base t v := hval0
  have hW' := hW
  obtain ⟨p, q, hA0, hV, rfl, hfz, hnd⟩ := hW
  have hA : DataW.TrodAll enc Try.prog W 0 (fun _ => true) true Try.f10.params.toList args.toList ds p := hA0
  rw [Try.params10] at hA hval
  obtain ⟨v0, vs0, d0, ds0, p0, q0, hargs, rfl, rfl, h0, r0⟩ := trodAll_cons hA
  obtain ⟨v1, vs1, d1, ds1, p1, q1, rfl, rfl, rfl, h1, r1⟩ := trodAll_cons r0
  obtain ⟨v2, vs2, d2, ds2, p2, q2, rfl, rfl, rfl, h2, r2⟩ := trodAll_cons r1
  obtain ⟨v3, vs3, d3, ds3, p3, q3, rfl, rfl, rfl, h3, r3⟩ := trodAll_cons r2
  obtain ⟨rfl, rfl, rfl⟩ := trodAll_nil r3
  obtain rfl : args = #[v0, v1, v2, v3] := by cases args; simp_all
  obtain ⟨hh, shh, rfl, hhh⟩ := openHall (hval 0 24 v0 rfl rfl) h0
  obtain ⟨a, rfl, rfl, rfl, wa⟩ := open_int Try.underlying5 (hval 1 5 v1 rfl rfl) h1
  obtain ⟨b, rfl, rfl, rfl, wb⟩ := open_int Try.underlying5 (hval 2 5 v2 rfl rfl) h2
  obtain ⟨l, hl⟩ := openSteps (hval 3 39 v3 rfl rfl) h3
  clear hA0 hval0
  refine (cutProved_any hh shh a b v3 l W hhh wa wb hl).mono fun e W' ⟨he, hb⟩ => ?_
  subst he
  exact ⟨_, rfl, law_post laidOut (tb := 4) (hts_of (by kernel_rfl)) (by kernel_rfl) Try.underlying4 hW' rfl rfl hb⟩
theorem cutProved_holds : Rows.CutProvedSaid :=
  OpenClaim.holds_of_wide 10 Try.f10 rfl rfl rfl rfl rfl rfl rfl ⟨rfl, rfl, rfl, rfl, rfl⟩ rfl rfl rfl rfl rfl (by kernel_rfl) Try.func10 (by kernel_rfl)
    (of_decide_eq_true (by kernel_rfl)) (by unfold Func.isWrapper; first | (rw [if_pos (by decide +kernel)]; kernel_rfl) | (rw [if_neg (by decide +kernel)]; exact ⟨rfl, rfl⟩))
    (fun os started H enc _ => cutProved_lifted os started H enc)
end Go.Proofs.Ytgcldgchhdjnhaa
