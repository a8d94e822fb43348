/-
  The statement CutBlamed holds: without the counters of Wrong the others agree; without fewer given ones, or as many that come before, they do not; given rings that are apart are no more than these counters; for every hall, any number and any lists of steps that are handed in. No condition.
-/
import Derived.Test.YtgcldgchhdjnhaaWrongR
import Derived.Test.YtgcldgchhdjnhaaBlameM
import Derived.Test.YtgcldgchhdjnhaaRingsL
import Derived.Deep.Cut
namespace Go.Proofs.Ytgcldgchhdjnhaa
open Go.RowKit Go.Shelf
theorem modB {f n : Int} (hn : 1 ≤ n) : ∃ A : Nat, f % n = A ∧ (A : Int) < n := by
  have h1 := Int.emod_nonneg f (by omega : n ≠ 0)
  have h2 := Int.emod_lt_of_pos f (by omega : 0 < n)
  exact ⟨(f % n).toNat, by omega, by omega⟩
theorem maskL_take {l : List Int} {k : Nat} (hk : k < l.length) : maskL (l.take (k + 1)) = maskL (l.take k) + 2 ^ (l[k]).toNat := by
  rw [List.take_succ_eq_append_getElem hk, mask_snoc]
theorem maskL_le {l : List Int} (k : Nat) : maskL (l.take k) ≤ maskL l := by
  have : maskL (l.take k ++ l.drop k) = maskL (l.take k) + maskL (l.drop k) := by unfold maskL; rw [List.map_append, List.sum_append]
  rw [List.take_append_drop] at this
  omega
set_option maxRecDepth 100000 in
set_option maxHeartbeats 4000000 in
theorem cutBlamed_any (h : Hall) (sv : Value) (bits_ : Int) (rv : Value) (ps : List (Value × List Stp)) (w : World) (hs : IsCnts w sv h.cs) (wb : (Lit.int .u16 bits_).wf = true) (hr : IsRngs w rv ps) :
    Calls Try.prog 13 #[.agg #[.int .i64 h.n, .int .i64 h.most, sv], .int .u16 bits_, rv] w fun e w' => e = .returned (.bool true) ∧ Ext w w' := by
  obtain ⟨sa, cap, rfl, hl1, hl2, -⟩ := hs.spec
  obtain ⟨ra, rcap, rfl, hm1, hm2, -⟩ := hr.spec
  obtain ⟨b0, b1⟩ := bounds_u16 wb
  have HS0 := Lib.hid hs
  have HR0 := Lib.hid hr
  clear hs hr wb
  go_enter Try.func13, Try.ntmps13
  go_upto_region 1 with (fail)
  obtain ⟨W0, hW0⟩ : ∃ W0, W0 = w.alloc (.cells #[.int .i64 h.n, .int .i64 h.most, .slice sa h.cs.length cap] 24) := ⟨_, rfl⟩
  have hE : Ext w W0 := by rw [hW0]; exact (by repeat (first | exact Below.refl _ _ | refine Ext.al ?_ _ | refine Ext.dr ?_ | refine Ext.drN ?_ _ | refine Ext.gr ?_ _ | refine Ext.set ?_ (by simp) _ | (refine Ext.trans' ?_ (by assumption))))
  have k0 : W0.cell? ⟨w.heap.size, 0, none⟩ = some (.int .i64 h.n) := by rw [hW0]; simp [go_sem]
  have k1 : W0.cell? ⟨w.heap.size, 1, none⟩ = some (.int .i64 h.most) := by rw [hW0]; simp [go_sem]
  have k2 : W0.cell? ⟨w.heap.size, 2, none⟩ = some (.slice sa h.cs.length cap) := by rw [hW0]; simp [go_sem]
  have hz : w.heap.size < W0.heap.size := World.block_lt_of_cell? _ _ k0
  have HS := Lib.hid (HS0.out.ext hE)
  have HW := Lib.hid hE
  rw [← hW0]
  clear hW0 HS0
  have HR := Lib.hid (HR0.out.ext hE)
  clear hE HR0


  go_wp2_with fail
  refine callW (W0 := W0) (g := ⟨W0, Below.refl _ _⟩) (by exact (by repeat (first | exact Below.refl _ _ | refine Ext.al ?_ _ | refine Ext.dr ?_ | refine Ext.drN ?_ _ | refine Ext.gr ?_ _ | refine Ext.set ?_ (by simp) _ | (refine Ext.trans' ?_ (by assumption))))) (fine_any h _ _ (HS.out.ext (by exact (by repeat (first | exact Below.refl _ _ | refine Ext.al ?_ _ | refine Ext.dr ?_ | refine Ext.drN ?_ _ | refine Ext.gr ?_ _ | refine Ext.set ?_ (by simp) _ | (refine Ext.trans' ?_ (by assumption))))))) fun g1 hgr => ?_
  clear hgr
  by_cases hc : chk h = 0
  rotate_left
  · rw [show (chk h == 0) = false by simpa using hc]
    clear hc

    go_wp2_with fail
    refine callW (W0 := W0) (g := g1) (by exact (by repeat (first | exact Below.refl _ _ | refine Ext.al ?_ _ | refine Ext.dr ?_ | refine Ext.drN ?_ _ | refine Ext.gr ?_ _ | refine Ext.set ?_ (by simp) _ | (refine Ext.trans' ?_ (by assumption))))) (works_any _) fun g2 hgr => ?_
    clear hgr
    go_wp2_with fail
    go_ret
    exact ⟨rfl, HW.out.trans' (grow_below W0 g2)⟩

  rw [show (chk h == 0) = true by simpa using hc]
  go_wp2_with fail
  refine callW (W0 := W0) (g := g1) (by exact (by repeat (first | exact Below.refl _ _ | refine Ext.al ?_ _ | refine Ext.dr ?_ | refine Ext.drN ?_ _ | refine Ext.gr ?_ _ | refine Ext.set ?_ (by simp) _ | (refine Ext.trans' ?_ (by assumption))))) (several_any ps _ _ (HR.out.ext (by exact (by repeat (first | exact Below.refl _ _ | refine Ext.al ?_ _ | refine Ext.dr ?_ | refine Ext.drN ?_ _ | refine Ext.gr ?_ _ | refine Ext.set ?_ (by simp) _ | (refine Ext.trans' ?_ (by assumption))))))) fun g3 hgr => ?_
  clear hgr
  cases severalB (ps.map (·.2))
  case true =>
    clear hc

    go_wp2_with fail
    refine callW (W0 := W0) (g := g3) (by exact (by repeat (first | exact Below.refl _ _ | refine Ext.al ?_ _ | refine Ext.dr ?_ | refine Ext.drN ?_ _ | refine Ext.gr ?_ _ | refine Ext.set ?_ (by simp) _ | (refine Ext.trans' ?_ (by assumption))))) (works_any _) fun g4 hgr => ?_
    clear hgr
    go_wp2_with fail
    go_ret
    exact ⟨rfl, HW.out.trans' (grow_below W0 g4)⟩

  have V := Lib.hid (valid_of_chk hc)
  have hlen := V.out.len
  have iw := isWrong V.out
  have hbi := bits_incs iw.inc
  have hkind := fun x hx => wrong_kind V.out (x := x) hx
  have c1 := fun w hs => wrong_fin h (.slice sa h.cs.length cap) w hs
  unfold RetWrong at c1
  rw [hc] at c1
  have hlists : listsN h = (fewestM h).length := by unfold listsN; rw [if_pos hc]
  have hlp : 0 < (fewestM h).length := List.length_pos_iff.2 (fewestM_ne V.out)
  obtain ⟨l, hl⟩ : ∃ l, l = wrongL h := ⟨_, rfl⟩
  rw [← hl] at c1 iw hbi hkind
  have hpw : 2 ^ h.cs.length ≤ 1024 := Nat.pow_le_pow_right (n := 2) (by omega) (show h.cs.length ≤ 10 by omega)
  have hown : maskL l < 1024 := by omega
  have hb16 : bitsL 16 (maskL l) = l := by rw [bitsL_same (b := h.cs.length) (by omega) hbi.2]; exact hbi.1
  have hin : ∀ x ∈ l, 0 ≤ x ∧ x < h.cs.length := fun x hx => by rw [← hbi.1] at hx; have := bits_mem.1 hx; omega
  have hsort := incs_sorted (by omega : (0 : Int) ≤ h.cs.length) _ l iw.inc
  obtain ⟨M, hM⟩ : ∃ M : Nat, M = 2 ^ h.cs.length := ⟨_, rfl⟩
  have hMp : 1 ≤ M := by rw [hM]; exact Nat.one_le_two_pow
  rw [← hM] at hpw
  have hshM : wrap64 ((2 : Int) ^ h.cs.length) = (M : Int) := by
    have e : (2 : Int) ^ h.cs.length = (M : Int) := by rw [hM]; simp
    rw [e]
    exact IntWalk.wrap64_in _ (by omega)
  have HSHM := Lib.hid hshM
  have HM := Lib.hid hM
  clear hM hshM
  have HLP := Lib.hid hlp
  have HC := Lib.hid hc
  have C1 := Lib.hid c1
  have IW := Lib.hid iw
  have HB16 := Lib.hid hb16
  have HIN := Lib.hid hin
  have HSORT := Lib.hid hsort
  have HKIND := Lib.hid hkind
  have HLISTS := Lib.hid hlists
  clear hlp hc c1 iw hbi hb16 hin hsort hkind hl hlists
  go_wp2_with fail
  refine callWR (W0 := W0) (g := g3) (by exact (by repeat (first | exact Below.refl _ _ | refine Ext.al ?_ _ | refine Ext.dr ?_ | refine Ext.drN ?_ _ | refine Ext.gr ?_ _ | refine Ext.set ?_ (by simp) _ | (refine Ext.trans' ?_ (by assumption))))) (C1.out _ (HS.out.ext (by exact (by repeat (first | exact Below.refl _ _ | refine Ext.al ?_ _ | refine Ext.dr ?_ | refine Ext.drN ?_ _ | refine Ext.gr ?_ _ | refine Ext.set ?_ (by simp) _ | (refine Ext.trans' ?_ (by assumption))))))) (fun _ _ ⟨_, _, r, _⟩ => r) fun _ g5 hgr hr => ?_
  obtain ⟨lv, rfl, -, hlv⟩ := hr
  clear hgr
  obtain ⟨la, lcap, rfl, hq1, hq2, hlc⟩ := hlv.spec
  have HL := Lib.hid hlv
  clear hlv hlc

  go_upto_region 6 with (fail)
  obtain ⟨X0, hX0⟩ : ∃ zz9, zz9 = (grow W0 g5) := ⟨_, rfl⟩
  have eX0 : Ext W0 X0 := by rw [hX0]; exact (by repeat (first | exact Below.refl _ _ | refine Ext.al ?_ _ | refine Ext.dr ?_ | refine Ext.drN ?_ _ | refine Ext.gr ?_ _ | refine Ext.set ?_ (by simp) _ | (refine Ext.trans' ?_ (by assumption))))
  have eX0c : Ext (grow W0 g5) X0 := by rw [hX0]; exact (by repeat (first | exact Below.refl _ _ | refine Ext.al ?_ _ | refine Ext.dr ?_ | refine Ext.drN ?_ _ | refine Ext.gr ?_ _ | refine Ext.set ?_ (by simp) _ | (refine Ext.trans' ?_ (by assumption))))
  replace k0 := cell_ext eX0 k0
  replace k1 := cell_ext eX0 k1
  replace k2 := cell_ext eX0 k2
  replace HS := Lib.hid (HS.out.ext eX0)
  replace HR := Lib.hid (HR.out.ext eX0)
  replace HL := Lib.hid (HL.out.ext eX0c)
  replace HW := Lib.hid (HW.out.trans' eX0)
  rw [← hX0]
  replace hz := World.block_lt_of_cell? _ _ k0
  clear hX0 eX0 eX0c
  go_wp2_with fail
  go_loopw [9, 10] (fun o i W => ∃ k : Nat, k ≤ l.length ∧ i = .int .i64 k ∧ o = .int .i64 (maskL (l.take k)) ∧ Ext X0 W) (fun _ i _ => l.length - (intOf i).toNat)
  case atStart => exact ⟨0, by omega, rfl, rfl, (by repeat (first | exact Below.refl _ _ | refine Ext.al ?_ _ | refine Ext.dr ?_ | refine Ext.drN ?_ _ | refine Ext.gr ?_ _ | refine Ext.set ?_ (by simp) _ | (refine Ext.trans' ?_ (by assumption))))⟩
  case round =>
    obtain ⟨k, hk, rfl, rfl, hE⟩ := hrel
    have HE := Lib.hid hE
    by_cases hlt : k < l.length
    · rcases (HL.out.ext hE).spec with ⟨sa', cap', e, -, -, hlc⟩
      cases e
      rcases hlc with hlc | ⟨lb, lo, rfl, hlc⟩
      · rw [hlc] at hlt; simp at hlt
      have ck := hlc k hlt
      have hx := HIN.out l[k] (List.getElem_mem hlt)
      obtain ⟨X, hX⟩ : ∃ X : Nat, l[k] = (X : Int) := ⟨(l[k]).toNat, by omega⟩
      rw [hX] at ck hx
      have k2' := cell_ext hE k2
      have hmk := maskL_take hlt
      rw [hX, Int.toNat_natCast] at hmk
      have hml := maskL_le (l := l) (k + 1)
      obtain ⟨P, hP⟩ : ∃ P : Nat, P = 2 ^ X := ⟨_, rfl⟩
      rw [← hP] at hmk
      have hop : maskL (l.take k) + P ≤ 1024 := by omega
      have hX63 : X < 63 := by omega
      have hsh : wrap64 ((2 : Int) ^ X) = (P : Int) := by
        have e : (2 : Int) ^ X = (P : Int) := by rw [hP]; simp
        rw [e]
        exact IntWalk.wrap64_in _ (by omega)
      obtain ⟨o, ho⟩ : ∃ o : Nat, o = maskL (l.take k) := ⟨_, rfl⟩
      rw [← ho] at hmk hop ⊢
      have HMK := Lib.hid hmk
      have hki : (k : Int) < (l.length : Int) := by omega
      have hx1 : decide ((h.cs.length : Int) ≤ (X : Int)) = false := decide_eq_false (by omega)
      have hx0 : decide ((X : Int) < 0) = false := by simp
      have hx1n : decide (h.cs.length ≤ X) = false := decide_eq_false (by omega)
      by_cases hk0 : k = 0
      · have hkd : decide ((0 : Int) < (k : Int)) = false := decide_eq_false (by omega)
        have hkn : decide (0 < k) = false := decide_eq_false (by omega)
        clear hE hlc hX hP ho hmk hml hx hk0
        go_wp2_with fail
        go_quiet (fail)
        go_wp2_with fail
        go_roundw
        case rel => exact ⟨k + 1, by omega, by go_num, by rw [HMK.out]; go_num, HE.out.drN _⟩
        case measure => simp [intOf]; omega
      · obtain ⟨j, hj⟩ : ∃ j, k = j + 1 := ⟨k - 1, by omega⟩
        have cj := hlc j (by omega)
        have hord := (List.pairwise_iff_getElem.1 HSORT.out) j k (by omega) hlt (by omega)
        have hkj : (k : Int) - 1 = (j : Int) := by omega
        have hk1 : decide ((0 : Int) < (k : Int)) = true := decide_eq_true (by omega)
        have hjl : (j : Int) < (l.length : Int) := by omega
        have hk1n : 0 < k := by omega
        have hk1d : decide (0 < k) = true := decide_eq_true (by omega)
        obtain ⟨Y, hY⟩ : ∃ Y : Nat, l[j] = (Y : Int) := ⟨(l[j]).toNat, by have := HIN.out l[j] (List.getElem_mem (by omega)); omega⟩
        rw [hX, hY] at hord
        rw [hY] at cj
        have hle : decide ((X : Int) ≤ (Y : Int)) = false := decide_eq_false (by omega)
        have hlen' : decide (X ≤ Y) = false := decide_eq_false (by omega)
        clear hE hlc hX hP ho hmk hml hx hY hord hk0 hj
        go_wp2_with fail
        go_quiet (fail)
        go_wp2_with fail
        go_roundw
        case rel => exact ⟨k + 1, by omega, by go_num, by rw [HMK.out]; go_num, HE.out.drN _⟩
        case measure => simp [intOf]; omega
    · obtain rfl : k = l.length := by omega
      rw [List.take_length]
      obtain ⟨gk, rfl⟩ := grow_of hE
      clear hE

      go_upto_region 13 with (fail)
      have c2 := fun w hs => without_any h (.slice sa h.cs.length cap) (maskL l) (by omega) w hs hlen
      rw [HB16.out] at c2
      unfold RetHall at c2
      have VW := wo_valid V.out l
      have c3 := fun sv w hs => agrees_any (wo h l) sv VW w hs
      rw [IW.out.ok] at c3
      have C2 := Lib.hid c2
      have C3 := Lib.hid c3
      clear c2 c3 VW
      obtain ⟨ow, how⟩ : ∃ ow, ow = maskL l := ⟨_, rfl⟩
      replace C2 := C2.out
      rw [← how] at C2 ⊢
      replace C2 := Lib.hid C2
      have HOW := Lib.hid how
      have how' : ow < 1024 := by omega
      clear how hown
      go_wp2_with fail
      refine callWR (W0 := X0) (g := gk) (by exact (by repeat (first | exact Below.refl _ _ | refine Ext.al ?_ _ | refine Ext.dr ?_ | refine Ext.drN ?_ _ | refine Ext.gr ?_ _ | refine Ext.set ?_ (by simp) _ | (refine Ext.trans' ?_ (by assumption))))) (C2.out _ (HS.out.ext (by exact (by repeat (first | exact Below.refl _ _ | refine Ext.al ?_ _ | refine Ext.dr ?_ | refine Ext.drN ?_ _ | refine Ext.gr ?_ _ | refine Ext.set ?_ (by simp) _ | (refine Ext.trans' ?_ (by assumption))))))) (fun _ _ ⟨_, _, r, _⟩ => r) fun _ g6 hgr hr => ?_
      obtain ⟨sv2, rfl, -, hs2⟩ := hr
      clear hgr
      have HS2 := Lib.hid hs2
      clear hs2
      go_wp2_with fail
      refine callW (W0 := X0) (g := g6) (by exact (by repeat (first | exact Below.refl _ _ | refine Ext.al ?_ _ | refine Ext.dr ?_ | refine Ext.drN ?_ _ | refine Ext.gr ?_ _ | refine Ext.set ?_ (by simp) _ | (refine Ext.trans' ?_ (by assumption))))) (C3.out _ _ HS2.out) fun g7 hgr => ?_
      clear hgr
      have c4 := fun w hs hv => checkRings_any h (.slice sa h.cs.length cap) (.slice ra ps.length rcap) ps w hs hv
      have hrl : ringsErr h (ps.map (·.2)) = 0 → ps.length ≤ l.length := fun e => by
        rw [rings_eq] at e
        have := rings_le V.out HIN.out ((agr_iff (wo_valid V.out l)).1 IW.out.ok) e
        simpa using this
      have hrn : ringsErr h (ps.map (·.2)) = 0 → ringsN h (ps.map (·.2)) = ps.length := fun e => by unfold ringsN; rw [if_pos e]; simp
      obtain ⟨rn, hrn0⟩ : ∃ x, x = ringsN h (ps.map (·.2)) := ⟨_, rfl⟩
      obtain ⟨re, hre0⟩ : ∃ x, x = ringsErr h (ps.map (·.2)) := ⟨_, rfl⟩
      rw [← hrn0, ← hre0] at c4 hrn
      rw [← hre0] at hrl
      have C4 := Lib.hid c4
      have HRL := Lib.hid hrl
      have HRN := Lib.hid hrn
      clear c4 hrl hrn hrn0 hre0
      go_wp2_with fail
      refine callW (W0 := X0) (g := g7) (by exact (by repeat (first | exact Below.refl _ _ | refine Ext.al ?_ _ | refine Ext.dr ?_ | refine Ext.drN ?_ _ | refine Ext.gr ?_ _ | refine Ext.set ?_ (by simp) _ | (refine Ext.trans' ?_ (by assumption))))) (C4.out _ (HS.out.ext (by exact (by repeat (first | exact Below.refl _ _ | refine Ext.al ?_ _ | refine Ext.dr ?_ | refine Ext.drN ?_ _ | refine Ext.gr ?_ _ | refine Ext.set ?_ (by simp) _ | (refine Ext.trans' ?_ (by assumption)))))) (HR.out.ext (by exact (by repeat (first | exact Below.refl _ _ | refine Ext.al ?_ _ | refine Ext.dr ?_ | refine Ext.drN ?_ _ | refine Ext.gr ?_ _ | refine Ext.set ?_ (by simp) _ | (refine Ext.trans' ?_ (by assumption))))))) fun g8 hgr => ?_
      clear hgr
      go_upto_region 15 with (fail)
      go_cut [114] from 93 (fun v wx => v = .bool false ∧ wx = grow X0 g8)
      case first =>
        by_cases hre : re = 0
        · have e1 := HRN.out hre
          have e2 := HRL.out hre
          subst hre e1
          have e3 : decide ((l.length : Int) < (ps.length : Int)) = false := decide_eq_false (by omega)
          have e4 : decide (l.length < ps.length) = false := decide_eq_false (by omega)
          clear HRL HRN
          go_wp2_with fail
          go_meet
          case rel => exact ⟨rfl, rfl⟩
        · have e1 : (re == 0) = false := by simpa using hre
          clear hre
          go_wp2_with fail
          go_meet
          case rel => exact ⟨rfl, rfl⟩
      case rest =>
        obtain ⟨rfl, rfl⟩ := hcut
        go_upto_region 17 with (fail)
        obtain ⟨G, hG, hGM⟩ := modB (f := bits_) (n := (M : Int)) (Int.ofNat_le.2 hMp)
        have HGB : Hid (bitsL 16 G = bitsL h.cs.length G) := Lib.hid (by
          have hGM' : G < 2 ^ h.cs.length := by rw [← HM.out]; omega
          exact bitsL_same (n := G) (a := 16) (b := h.cs.length) (by omega) hGM')
        have hlc : h.cs.length < 63 := by omega
        have hshM : wrap64 ((2 : Int) ^ h.cs.length) = (M : Int) := HSHM.out
        clear hm1 hm2 hq1 hq2 hk hlt how'
        try clear e1
        try clear e2 e3 e4
        go_upto_region 18 with (fail)
        try simp only [hG]
        clear hG hshM
        obtain ⟨g, hg⟩ : ∃ g, g = bitsL 16 G := ⟨_, rfl⟩
        have cb := fun w => bitsR_any G (by omega) w
        have cw := fun w hs => without_any h (.slice sa h.cs.length cap) G (by omega) w hs hlen
        unfold RetHall at cw
        have VG := wo_valid V.out (bitsL 16 G)
        have ca := fun sv w hs => agrees_any (wo h (bitsL 16 G)) sv VG w hs
        obtain ⟨yes, hyes⟩ : ∃ y, y = (leastM (wo h (bitsL 16 G)) 0).2 := ⟨_, rfl⟩
        have hgl : yes = true → l.length ≤ g.length ∧ (g.length = l.length → bef g l = false) := fun hy => by
          have hin : g ∈ incs h.cs.length g.length := by rw [hg, HGB.out]; exact bits_in _ _
          obtain ⟨q1, q2⟩ := IW.out.least g hin (by rw [hg, ← hyes]; exact hy)
          refine ⟨q1, fun e => ?_⟩
          cases hb : bef g l with
          | false => rfl
          | true => exact absurd (bef_lex.1 hb) (q2 e)
        rw [← hyes] at ca
        rw [← hg] at cb
        have CB := Lib.hid cb
        have CG := Lib.hid cw
        have CA := Lib.hid ca
        have HGL := Lib.hid hgl
        clear cb cw ca hgl hg hyes VG
        go_wp2_with fail
        refine callWR (W0 := X0) (g := g8) (by exact (by repeat (first | exact Below.refl _ _ | refine Ext.al ?_ _ | refine Ext.dr ?_ | refine Ext.drN ?_ _ | refine Ext.gr ?_ _ | refine Ext.set ?_ (by simp) _ | (refine Ext.trans' ?_ (by assumption))))) (CB.out (grow X0 g8)) (fun _ _ ⟨_, _, r, _⟩ => r) fun _ g9 hgr hr => ?_
        obtain ⟨gv, rfl, -, hgo⟩ := hr
        clear hgr
        have hgi := hgo.oneInts
        obtain ⟨ga, gcap, rfl, -⟩ := hgi.spec
        have HG := Lib.hid hgi
        clear hgo hgi

        go_wp2_with fail
        refine callWR (W0 := X0) (g := g9) (by exact (by repeat (first | exact Below.refl _ _ | refine Ext.al ?_ _ | refine Ext.dr ?_ | refine Ext.drN ?_ _ | refine Ext.gr ?_ _ | refine Ext.set ?_ (by simp) _ | (refine Ext.trans' ?_ (by assumption))))) (CG.out _ (HS.out.ext (by exact (by repeat (first | exact Below.refl _ _ | refine Ext.al ?_ _ | refine Ext.dr ?_ | refine Ext.drN ?_ _ | refine Ext.gr ?_ _ | refine Ext.set ?_ (by simp) _ | (refine Ext.trans' ?_ (by assumption))))))) (fun _ _ ⟨_, _, r, _⟩ => r) fun _ g10 hgr hr => ?_
        obtain ⟨sv3, rfl, -, hs3⟩ := hr
        replace HG := Lib.hid (HG.out.ext hgr)
        clear hgr
        have HS3 := Lib.hid hs3
        clear hs3
        go_wp2_with fail
        refine callW (W0 := X0) (g := g10) (by exact (by repeat (first | exact Below.refl _ _ | refine Ext.al ?_ _ | refine Ext.dr ?_ | refine Ext.drN ?_ _ | refine Ext.gr ?_ _ | refine Ext.set ?_ (by simp) _ | (refine Ext.trans' ?_ (by assumption))))) (CA.out _ _ HS3.out) fun g11 hgr => ?_
        replace HG := Lib.hid (HG.out.ext hgr)
        clear hgr
        go_upto_region 20 with (fail)
        go_cut [154] from 131 (fun v wx => v = .bool false ∧ ∃ gz, wx = grow X0 gz)
        case first =>
          cases yes
          · go_wp2_with fail
            go_meet
            case rel => exact ⟨rfl, _, rfl⟩
          · obtain ⟨q1, q2⟩ := HGL.out rfl
            have q3 : decide (g.length < l.length) = false := decide_eq_false (by omega)
            have q3' : decide ((g.length : Int) < (l.length : Int)) = false := decide_eq_false (by omega)
            by_cases heq : g.length = l.length
            · have q4 : ((g.length : Int) == (l.length : Int)) = true := by simp; omega
              have cf := fun av bv w ha hb => before_any g l av bv heq w ha hb
              rw [q2 heq] at cf
              have CF := Lib.hid cf
              clear cf q1 q2 heq

              go_wp2_with fail
              refine callW (W0 := X0) (g := g11) (by exact (by repeat (first | exact Below.refl _ _ | refine Ext.al ?_ _ | refine Ext.dr ?_ | refine Ext.drN ?_ _ | refine Ext.gr ?_ _ | refine Ext.set ?_ (by simp) _ | (refine Ext.trans' ?_ (by assumption))))) (CF.out _ _ _ (HG.out.ext (by exact (by repeat (first | exact Below.refl _ _ | refine Ext.al ?_ _ | refine Ext.dr ?_ | refine Ext.drN ?_ _ | refine Ext.gr ?_ _ | refine Ext.set ?_ (by simp) _ | (refine Ext.trans' ?_ (by assumption)))))) (HL.out.ext (by exact (by repeat (first | exact Below.refl _ _ | refine Ext.al ?_ _ | refine Ext.dr ?_ | refine Ext.drN ?_ _ | refine Ext.gr ?_ _ | refine Ext.set ?_ (by simp) _ | (refine Ext.trans' ?_ (by assumption))))))) fun g12 hgr => ?_
              replace HG := Lib.hid (HG.out.ext hgr)
              clear hgr
              go_wp2_with fail
              go_meet
              case rel => exact ⟨rfl, _, rfl⟩

            · have q4 : ((g.length : Int) == (l.length : Int)) = false := by simp; omega
              clear q1 q2 heq
              go_wp2_with fail
              go_meet
              case rel => exact ⟨rfl, _, rfl⟩
        case rest =>
          obtain ⟨rfl, gz, rfl⟩ := hcut
          clear CB CG CA HGL


          clear HG
          go_upto_region 22 with (fail)
          go_wp2_with fail
          go_loopw [17] (fun i W => ∃ k : Nat, k ≤ l.length ∧ i = .int .i64 k ∧ Ext X0 W) (fun i _ => l.length - (intOf i).toNat)
          case atStart => exact ⟨0, by omega, rfl, (by repeat (first | exact Below.refl _ _ | refine Ext.al ?_ _ | refine Ext.dr ?_ | refine Ext.drN ?_ _ | refine Ext.gr ?_ _ | refine Ext.set ?_ (by simp) _ | (refine Ext.trans' ?_ (by assumption))))⟩
          case round =>
            obtain ⟨k, hk, rfl, hE⟩ := hrel
            have HER := Lib.hid hE
            by_cases hlt : k < l.length
            · rcases (HL.out.ext hE).spec with ⟨sa', cap', e, hz1, hz2, hlc2⟩
              cases e
              rcases hlc2 with hlc2 | ⟨lb, lo, rfl, hlc2⟩
              · rw [hlc2] at hlt; simp at hlt
              have ck := hlc2 k hlt
              have hx := HIN.out l[k] (List.getElem_mem hlt)
              obtain ⟨ke, hkn⟩ := HKIND.out l[k] (List.getElem_mem hlt)
              obtain ⟨X, hX⟩ : ∃ X : Nat, l[k] = (X : Int) := ⟨(l[k]).toNat, by omega⟩
              rw [hX] at ck ke hkn
              have k0' := cell_ext hE k0
              have k1' := cell_ext hE k1
              have k2' := cell_ext hE k2
              have HSR := Lib.hid (HS.out.ext hE)
              have hki : (k : Int) < (l.length : Int) := by omega
              have hzr : w.heap.size < wr.heap.size := World.block_lt_of_cell? _ _ k0'
              have hlr : lb < wr.heap.size := World.block_lt_of_cell? _ _ ck
              clear hE hlc2 hx hX
              have ck9 := fun W hs => kind_fin h (.slice sa h.cs.length cap) (X : Int) W hs
              obtain ⟨kn, hk0⟩ : ∃ kn, kn = kindN h X := ⟨_, rfl⟩
              rw [ke, ← hk0] at ck9
              rw [← hk0] at hkn
              have HKN := Lib.hid hkn
              have CK := Lib.hid ck9
              clear ck9 ke hkn hk0
              go_upto_region 25 with (fail)
              refine wp_region_rove (wr.heap.size) (Nat.le_refl _)
                [sqV (.agg #[.int .i64 h.n, .int .i64 h.most, .slice sa h.cs.length cap]),
                 sqV (.slice (some ⟨lb, lo, none⟩) l.length lcap),
                 sqV (.int .i64 k),
                 sqV (.pointer (some ⟨lb, lo + k, none⟩)),
                 sqV (.int .i64 X),
                 sqV (.tuple #[.int .i64 kn, .int .i64 0]),
                 sqV (.tuple #[.int .i64 kn, .int .i64 0]),
                 sqV (.int .i64 kn),
                 sqV (.int .i64 0),
                 sqV (.int .i64 kn),
                 sqV (.int .i64 0)]
                [true, true, true, true, true, true, true, true, true, true, true] [false, false, false, false, false, false, false, false, false, false, false] [true, true, true, true, true, true, true, true, true, true, true] [true, true, true, true, true, true, true, true, true, true, true]
                (by kernel_rfl) (by kernel_rfl) (by decide +kernel) (by decide +kernel) (by decide +kernel) rfl rfl ⟨?s0, ?s1, ?s2, ?s3, ?s4, ?s5, ?s6, ?s7, ?s8, ?s9, ?s10, trivial⟩ [some 162, some 163, some 164, some 165, some 166, some 167, some 161, some 168, some 169, some 18, some 19] rfl rfl ?send
              case s0 =>
                intro val ρ W hE hz hd hA hx
                have o0 : ρ (.tmp 3) = .pointer (some ⟨w.heap.size, 0, none⟩) := hA.old 3 (by decide)
                have f_k0' := cell_below hE (by simp only; omega) k0'
                have f_k1' := cell_below hE (by simp only; omega) k1'
                have f_k2' := cell_below hE (by simp only; omega) k2'
                clear hd
                exact runq_val (W' := W) (by simp [execOp, o0, f_k0', f_k1', f_k2', go_sem]) (Below.refl _ _) rfl
              case s1 =>
                intro val ρ W hE hz hd hA hx
                have o0 : ρ (.tmp 7) = .slice (some ⟨lb, lo, none⟩) l.length lcap := hA.old 7 (by decide)
                clear hd
                exact runq_val (W' := W) (by simp [execOp, o0, go_sem]) (Below.refl _ _) rfl
              case s2 =>
                intro val ρ W hE hz hd hA hx
                have o0 : ρ (.tmp 17) = .int .i64 k := hA.old 17 (by decide)
                clear hd
                exact runq_val (W' := W) (by simp [execOp, o0, go_sem]) (Below.refl _ _) rfl
              case s3 =>
                intro val ρ W hE hz hd hA hx
                have d1 : ρ (.tmp 163) = .slice (some ⟨lb, lo, none⟩) l.length lcap := (hA.dep 1 (by decide) 163 rfl).trans (hd 1 (by decide))
                have d2 : ρ (.tmp 164) = .int .i64 k := (hA.dep 2 (by decide) 164 rfl).trans (hd 2 (by decide))
                clear hd
                exact runq_val (W' := W) (by simp [execOp, d1, d2, hki, go_sem]) (Below.refl _ _) rfl
              case s4 =>
                intro val ρ W hE hz hd hA hx
                have d3 : ρ (.tmp 165) = .pointer (some ⟨lb, lo + k, none⟩) := (hA.dep 3 (by decide) 165 rfl).trans (hd 3 (by decide))
                have f_ck := cell_below hE (by simp only; omega) ck
                clear hd
                exact runq_val (W' := W) (by simp [execOp, d3, f_ck, go_sem]) (Below.refl _ _) rfl
              case s5 =>
                intro val ρ W hE hz hd hA hx
                have d0 : ρ (.tmp 162) = .agg #[.int .i64 h.n, .int .i64 h.most, .slice sa h.cs.length cap] := (hA.dep 0 (by decide) 162 rfl).trans (hd 0 (by decide))
                have d4 : ρ (.tmp 166) = .int .i64 X := (hA.dep 4 (by decide) 166 rfl).trans (hd 4 (by decide))
                clear hd
                refine runq_call 43 _ _ rfl #[.agg #[.int .i64 h.n, .int .i64 h.most, .slice sa h.cs.length cap], .int .i64 X] (hA.func _) (by simp [d0, d4]) (fun args W => Try.call43 args W) ((CK.out W (HSR.out.ext hE)).mono ?_)
                rintro e w' ⟨rfl, hb⟩
                exact ⟨_, rfl, hb, rfl⟩
              case s6 =>
                intro val ρ W hE hz hd hA hx
                have d5 : ρ (.tmp 167) = .tuple #[.int .i64 kn, .int .i64 0] := (hA.dep 5 (by decide) 167 rfl).trans (hd 5 (by decide))
                clear hd
                exact runq_val (W' := W) (by simp [execOp, d5, go_sem]) (Below.refl _ _) rfl
              case s7 =>
                intro val ρ W hE hz hd hA hx
                have d6 : ρ (.tmp 161) = .tuple #[.int .i64 kn, .int .i64 0] := (hA.dep 6 (by decide) 161 rfl).trans (hd 6 (by decide))
                clear hd
                exact runq_val (W' := W) (by simp [execOp, d6, go_sem]) (Below.refl _ _) rfl
              case s8 =>
                intro val ρ W hE hz hd hA hx
                have d6 : ρ (.tmp 161) = .tuple #[.int .i64 kn, .int .i64 0] := (hA.dep 6 (by decide) 161 rfl).trans (hd 6 (by decide))
                clear hd
                exact runq_val (W' := W) (by simp [execOp, d6, go_sem]) (Below.refl _ _) rfl
              case s9 =>
                intro val ρ W hE hz hd hA hx
                have d7 : ρ (.tmp 168) = .int .i64 kn := (hA.dep 7 (by decide) 168 rfl).trans (hd 7 (by decide))
                clear hd
                exact runq_val (W' := W) (by simp [execOp, d7, go_sem]) (Below.refl _ _) rfl
              case s10 =>
                intro val ρ W hE hz hd hA hx
                have d8 : ρ (.tmp 169) = .int .i64 0 := (hA.dep 8 (by decide) 169 rfl).trans (hd 8 (by decide))
                clear hd
                exact runq_val (W' := W) (by simp [execOp, d8, go_sem]) (Below.refl _ _) rfl
              case send =>
                intro val WW hE hzz hv
                obtain ⟨r0, r1, r2, r3, r4, r5, r6, r7, r8, r9, r10, -⟩ := hv
                have q0 : val 0 = .agg #[.int .i64 h.n, .int .i64 h.most, .slice sa h.cs.length cap] := r0
                have q1 : val 1 = .slice (some ⟨lb, lo, none⟩) l.length lcap := r1
                have q2 : val 2 = .int .i64 k := r2
                have q3 : val 3 = .pointer (some ⟨lb, lo + k, none⟩) := r3
                have q4 : val 4 = .int .i64 X := r4
                have q5 : val 5 = .tuple #[.int .i64 kn, .int .i64 0] := r5
                have q6 : val 6 = .tuple #[.int .i64 kn, .int .i64 0] := r6
                have q7 : val 7 = .int .i64 kn := r7
                have q8 : val 8 = .int .i64 0 := r8
                have q9 : val 9 = .int .i64 kn := r9
                have q10 : val 10 = .int .i64 0 := r10
                clear r0 r1 r2 r3 r4 r5 r6 r7 r8 r9 r10
                obtain ⟨g99, rfl⟩ := grow_of hE
                clear hE hzz
                simp only [putD, q0, q1, q2, q3, q4, q5, q6, q7, q8, q9, q10]
                go_frame
                clear q0 q1 q2 q3 q4 q5 q6 q7 q8 q9 q10
                rcases HKN.out with rfl | rfl
                all_goals
                  go_wp2_with fail
                  go_roundw
                  case rel => exact ⟨k + 1, by omega, by go_num, HER.out.trans' (grow_below wr g99)⟩
                  case measure => simp [intOf]; omega
            · obtain rfl : k = l.length := by omega
              obtain ⟨gz, rfl⟩ := grow_of hE
              clear hE hk hlt


              have c8 := fun w hs => lists_any h (.slice sa h.cs.length cap) w hs
              rw [HLISTS.out, HC.out] at c8
              have hlp := HLP.out
              obtain ⟨nn, hnn⟩ : ∃ nn, nn = (fewestM h).length := ⟨_, rfl⟩
              rw [← hnn] at c8 hlp
              have C8 := Lib.hid c8
              have how0 : l.length = 0 → ow = 0 := fun e => by rw [HOW.out, List.eq_nil_of_length_eq_zero e]; rfl
              have HOW0 := Lib.hid how0
              clear c8 hnn how0
              go_wp2_with fail
              refine callW (W0 := X0) (g := gz) (by exact (by repeat (first | exact Below.refl _ _ | refine Ext.al ?_ _ | refine Ext.dr ?_ | refine Ext.drN ?_ _ | refine Ext.gr ?_ _ | refine Ext.set ?_ (by simp) _ | (refine Ext.trans' ?_ (by assumption))))) (C8.out _ (HS.out.ext (by exact (by repeat (first | exact Below.refl _ _ | refine Ext.al ?_ _ | refine Ext.dr ?_ | refine Ext.drN ?_ _ | refine Ext.gr ?_ _ | refine Ext.set ?_ (by simp) _ | (refine Ext.trans' ?_ (by assumption))))))) fun g13 hgr => ?_
              clear hgr
              go_upto_region 29 with (fail)
              obtain ⟨ln, hln⟩ : ∃ n, n = l.length := ⟨_, rfl⟩
              have how1 := HOW0.out
              rw [← hln] at how1 ⊢
              have HOW1 := Lib.hid how1
              clear hln how1 HOW0
              have t1 : decide ((1 : Int) ≤ (nn : Int)) = true := decide_eq_true (by omega)
              have t1n : decide (1 ≤ nn) = true := decide_eq_true (by omega)
              by_cases hn1 : 1 < nn
              · have t2 : decide ((1 : Int) < (nn : Int)) = true := decide_eq_true (by omega)
                clear hn1

                go_wp2_with fail
                refine callW (W0 := X0) (g := g13) (by exact (by repeat (first | exact Below.refl _ _ | refine Ext.al ?_ _ | refine Ext.dr ?_ | refine Ext.drN ?_ _ | refine Ext.gr ?_ _ | refine Ext.set ?_ (by simp) _ | (refine Ext.trans' ?_ (by assumption))))) (works_any _) fun g14 hgr => ?_
                clear hgr
                go_wp2_with fail
                go_ret
                exact ⟨rfl, HW.out.trans' (grow_below X0 g14)⟩

              have t2 : decide ((1 : Int) < (nn : Int)) = false := decide_eq_false (by omega)
              by_cases hl0 : ln = 0
              · have t4 := HOW1.out hl0
                subst t4 hl0
                clear hn1

                go_wp2_with fail
                refine callW (W0 := X0) (g := g13) (by exact (by repeat (first | exact Below.refl _ _ | refine Ext.al ?_ _ | refine Ext.dr ?_ | refine Ext.drN ?_ _ | refine Ext.gr ?_ _ | refine Ext.set ?_ (by simp) _ | (refine Ext.trans' ?_ (by assumption))))) (works_any _) fun g15 hgr => ?_
                clear hgr
                go_wp2_with fail
                go_ret
                exact ⟨rfl, HW.out.trans' (grow_below X0 g15)⟩

              · have t3 : decide ((0 : Int) < (ln : Int)) = true := decide_eq_true (by omega)
                have t3n : decide (0 < ln) = true := decide_eq_true (by omega)
                have t3p : 0 < ln := by omega
                clear hn1 hl0

                go_wp2_with fail
                refine callW (W0 := X0) (g := g13) (by exact (by repeat (first | exact Below.refl _ _ | refine Ext.al ?_ _ | refine Ext.dr ?_ | refine Ext.drN ?_ _ | refine Ext.gr ?_ _ | refine Ext.set ?_ (by simp) _ | (refine Ext.trans' ?_ (by assumption))))) (works_any _) fun g16 hgr => ?_
                clear hgr
                go_wp2_with fail
                go_ret
                exact ⟨rfl, HW.out.trans' (grow_below X0 g16)⟩


open Go.ChangeShapes Go.WideShapes Go.ChangeAt in
set_option maxRecDepth 100000 in
theorem cutBlamed_lifted (os : Os) (started : os.Started) (H : Type) (enc : TypeId × Value → H) :
    ReturnsInHanded {} Try.checked os 13 .any (Rows.cutBlamedSpec.pre6 enc Try.prog Try.f13 Rows.cutBlamedRow.domain false) (Rows.cutBlamedSpec.post enc Try.prog Try.f13 false true false false) := by
  refine returnsInHanded_of_change (C := Try.checked) own started (by kernel_rfl) Try.func13
    (ChangeSpec.witness6 (enc := enc) (C := Try.checked) false ⟨#[], #[.agg #[.int .i64 0, .int .i64 0, .slice none 0 0], .int .u16 0, .slice none 0 0], []⟩ 8 (by kernel_rfl) (by kernel_rfl) (by kernel_rfl) (by kernel_rfl)) ?_
  intro W base args ds gs before hval0 hW hcnd _
  have hval : ∀ (j : Nat) t v, Try.f13.params[j]? = some t → args[j]? = some v → Value.okWide Try.prog W .any base t v := hval0
  have hW' := hW
  obtain ⟨p, q, hA0, hV, rfl, hfz, hnd⟩ := hW
  have hA : DataW.TrodAll enc Try.prog W 0 (fun _ => true) true Try.f13.params.toList args.toList ds p := hA0
  rw [Try.params13] at hA hval
  obtain ⟨v0, vs0, d0, ds0, p0, q0, hargs, rfl, rfl, h0, r0⟩ := trodAll_cons hA
  obtain ⟨v1, vs1, d1, ds1, p1, q1, rfl, rfl, rfl, h1, r1⟩ := trodAll_cons r0
  obtain ⟨v2, vs2, d2, ds2, p2, q2, rfl, rfl, rfl, h2, r2⟩ := trodAll_cons r1
  obtain ⟨rfl, rfl, rfl⟩ := trodAll_nil r2
  obtain rfl : args = #[v0, v1, v2] := by cases args; simp_all
  obtain ⟨hh, shh, rfl, hhh⟩ := openHall (hval 0 24 v0 rfl rfl) h0
  obtain ⟨b, rfl, rfl, rfl, wb⟩ := open_int Try.underlying80 (hval 1 80 v1 rfl rfl) h1
  obtain ⟨r, hr⟩ := openRings (hval 2 49 v2 rfl rfl) h2
  clear hA0 hval0
  refine (cutBlamed_any hh shh b v2 r W hhh wb hr).mono fun e W' ⟨he, hb⟩ => ?_
  subst he
  exact ⟨_, rfl, law_post laidOut (tb := 4) (hts_of (by kernel_rfl)) (by kernel_rfl) Try.underlying4 hW' rfl rfl hb⟩
theorem cutBlamed_holds : Rows.CutBlamedSaid :=
  OpenClaim.holds_of_wide 13 Try.f13 rfl rfl rfl rfl rfl rfl rfl ⟨rfl, rfl, rfl, rfl, rfl⟩ rfl rfl rfl rfl rfl (by kernel_rfl) Try.func13 (by kernel_rfl)
    (of_decide_eq_true (by kernel_rfl)) (by unfold Func.isWrapper; first | (rw [if_pos (by decide +kernel)]; kernel_rfl) | (rw [if_neg (by decide +kernel)]; exact ⟨rfl, rfl⟩))
    (fun os started H enc _ => cutBlamed_lifted os started H enc)
end Go.Proofs.Ytgcldgchhdjnhaa
