/-
  The statement PoolScratched holds: the order in which runners are scratched does not matter; for every valid book, two runners and a finish by numbers. No condition.
-/
import Derived.Test.YtphajlldghcnnaaBalanced
import Derived.Test.YtphajlldghcnnaaPv
namespace Go.Proofs.Ytphajlldghcnnaa
open Go.RowKit Go.Shelf
theorem retScr_ok {w : World} {b : Bk} {r : Int} {e : Ending} {w' : World} (h0 : scrErr b r = 0) (h : RetScr w b r e w') : Ext w w' ∧ ∃ (ba sa : Option Addr) (bcap scap : Nat), e = .returned (.tuple #[bookV (scrP b r) ba bcap sa scap, .int .i64 0]) ∧ IsBook w' (scrP b r) ba bcap sa scap := by
  obtain ⟨h1, ⟨hne, _⟩ | ⟨_, ba, sa, bc, sc, rfl, hI⟩⟩ := h
  · exact absurd h0 hne
  · exact ⟨h1, ba, sa, bc, sc, rfl, hI⟩
theorem retScr_no {w : World} {b : Bk} {r : Int} {e : Ending} {w' : World} {er : Int} (h0 : scrErr b r = er) (hne : er ≠ 0) (h : RetScr w b r e w') : e = .returned (.tuple #[noBook, .int .i64 er]) ∧ Ext w w' := by
  obtain ⟨h1, ⟨_, rfl⟩ | ⟨h2, _⟩⟩ := h
  · rw [h0]; exact ⟨rfl, h1⟩
  · exact absurd (h0.symm.trans h2) hne
/-- two numbers that differ, of a list with at least two elements -/
theorem two_at {n : Nat} (hn : 4 ≤ n) (x y : Nat) : (x + 1 + y % (n - 1)) % n ≠ x % n := by
  intro e
  have h1 : y % (n - 1) < n - 1 := Nat.mod_lt _ (by omega)
  have h2 : (x + (1 + y % (n - 1))) % n = x % n := by rw [← Nat.add_assoc]; exact e
  have h3 : (x + (1 + y % (n - 1))) % n = (x % n + (1 + y % (n - 1))) % n := by rw [Nat.add_mod, Nat.mod_eq_of_lt (show 1 + y % (n - 1) < n by omega)]
  rw [h3] at h2
  have h4 : x % n < n := Nat.mod_lt _ (by omega)
  by_cases h5 : x % n + (1 + y % (n - 1)) < n
  · rw [Nat.mod_eq_of_lt h5] at h2; omega
  · rw [Nat.mod_eq_sub_mod (by omega), Nat.mod_eq_of_lt (by omega)] at h2; omega
set_option maxRecDepth 200000 in
set_option maxHeartbeats 16000000 in
theorem poolScratched_any (b : Bk) (ba sa : Option Addr) (bcap scap : Nat) (o1 o2 : Int) (nv : Value) (bs : List Int) (w : World) (hv : IsBook w b ba bcap sa scap) (hw1 : (Lit.int .u8 o1).wf = true) (hw2 : (Lit.int .u8 o2).wf = true) (hb : IsRows w 1 nv (bs.map fun n => [.int .u8 n])) (hw8 : ∀ x ∈ bs, (Lit.int .u8 x).wf = true) : Calls Try.prog 8 #[.agg #[.int .i64 b.kd, .int .i64 b.n, .slice ba b.bets.length bcap, .slice sa b.scr.length scap, .bool b.fav, .int .i64 b.car, .int .i64 b.duty, .int .i64 b.step], .int .u8 o1, .int .u8 o2, nv] w fun e w' => e = .returned (.bool true) ∧ Ext w w' := by
  have hbI : IsInts w .u8 nv bs := hb
  obtain ⟨na, ncap, rfl, hn1, hn2, -⟩ := hbI.spec
  have HN := Lib.hid hbI
  have H8 := Lib.hid (u8l hw8)
  obtain ⟨p1, hp1⟩ : ∃ p : Nat, o1 = (p : Int) ∧ p ≤ 255 := ⟨o1.toNat, by have := bounds_u8 hw1; omega, by have := bounds_u8 hw1; omega⟩
  obtain ⟨p2, hp2⟩ : ∃ p : Nat, o2 = (p : Int) ∧ p ≤ 255 := ⟨o2.toNat, by have := bounds_u8 hw2; omega, by have := bounds_u8 hw2; omega⟩
  obtain ⟨rfl, hp1⟩ := hp1
  obtain ⟨rfl, hp2⟩ := hp2
  clear hb hbI hw8 hw1 hw2
  have HV := Lib.hid hv
  clear hv
  go_enter Try.func8, Try.ntmps8
  go_upto_region 1 with (fail)
  obtain ⟨W0, hW0⟩ : ∃ W0, W0 = w.alloc (.cells #[.int .i64 b.kd, .int .i64 b.n, .slice ba b.bets.length bcap, .slice sa b.scr.length scap, .bool b.fav, .int .i64 b.car, .int .i64 b.duty, .int .i64 b.step] 25) := ⟨_, rfl⟩
  have hE : Ext w W0 := by rw [hW0]; exact (by repeat (first | exact Below.refl _ _ | refine Ext.al ?_ _ | refine Ext.dr ?_ | refine Ext.drN ?_ _ | refine Ext.gr ?_ _ | refine Ext.set ?_ (by simp) _ | (refine Ext.trans' ?_ (by assumption))))
  have k0 : W0.cell? ⟨w.heap.size, 0, none⟩ = some (.int .i64 b.kd) := by rw [hW0]; simp [go_sem]
  have k1 : W0.cell? ⟨w.heap.size, 1, none⟩ = some (.int .i64 b.n) := by rw [hW0]; simp [go_sem]
  have k2 : W0.cell? ⟨w.heap.size, 2, none⟩ = some (.slice ba b.bets.length bcap) := by rw [hW0]; simp [go_sem]
  have k3 : W0.cell? ⟨w.heap.size, 3, none⟩ = some (.slice sa b.scr.length scap) := by rw [hW0]; simp [go_sem]
  have k4 : W0.cell? ⟨w.heap.size, 4, none⟩ = some (.bool b.fav) := by rw [hW0]; simp [go_sem]
  have k5 : W0.cell? ⟨w.heap.size, 5, none⟩ = some (.int .i64 b.car) := by rw [hW0]; simp [go_sem]
  have k6 : W0.cell? ⟨w.heap.size, 6, none⟩ = some (.int .i64 b.duty) := by rw [hW0]; simp [go_sem]
  have k7 : W0.cell? ⟨w.heap.size, 7, none⟩ = some (.int .i64 b.step) := by rw [hW0]; simp [go_sem]
  have hz : w.heap.size < W0.heap.size := World.block_lt_of_cell? _ _ k0
  have HS := Lib.hid (HV.out.ext hE)
  have HW := Lib.hid hE
  rw [← hW0]
  clear hW0 HV
  have HNW := Lib.hid (HN.out.ext hE)
  clear hE HN




  go_wp2_with fail
  refine callW (W0 := W0) (g := ⟨W0, Below.refl _ _⟩) (by exact (by repeat (first | exact Below.refl _ _ | refine Ext.al ?_ _ | refine Ext.dr ?_ | refine Ext.drN ?_ _ | refine Ext.gr ?_ _ | refine Ext.set ?_ (by simp) _ | (refine Ext.trans' ?_ (by assumption))))) (fineL_any b ba sa bcap scap _ (HS.out.ext (by exact (by repeat (first | exact Below.refl _ _ | refine Ext.al ?_ _ | refine Ext.dr ?_ | refine Ext.drN ?_ _ | refine Ext.gr ?_ _ | refine Ext.set ?_ (by simp) _ | (refine Ext.trans' ?_ (by assumption))))))) fun g1 hgr => ?_
  clear hgr
  cases hfi : fineB b
  · skip

    go_wp2_with fail
    refine callW (W0 := W0) (g := g1) (by exact (by repeat (first | exact Below.refl _ _ | refine Ext.al ?_ _ | refine Ext.dr ?_ | refine Ext.drN ?_ _ | refine Ext.gr ?_ _ | refine Ext.set ?_ (by simp) _ | (refine Ext.trans' ?_ (by assumption))))) (worksL_any _) fun g2 hgr => ?_
    clear hgr
    go_wp2_with fail
    go_ret
    exact ⟨rfl, HW.out.trans' (grow_below W0 _)⟩

  have H0 := Lib.hid (fine_val hfi)
  have V := Lib.hid (bval_of (fine_val hfi))
  clear hfi
  by_cases hl : 20 < bs.length
  · have hli : (20 : Int) < (bs.length : Int) := by omega
    have HL := Lib.hid hl
    clear hl

    go_wp2_with fail
    refine callW (W0 := W0) (g := g1) (by exact (by repeat (first | exact Below.refl _ _ | refine Ext.al ?_ _ | refine Ext.dr ?_ | refine Ext.drN ?_ _ | refine Ext.gr ?_ _ | refine Ext.set ?_ (by simp) _ | (refine Ext.trans' ?_ (by assumption))))) (worksL_any _) fun g3 hgr => ?_
    clear hgr
    go_wp2_with fail
    go_ret
    exact ⟨rfl, HW.out.trans' (grow_below W0 _)⟩

  have hli : ¬ ((20 : Int) < (bs.length : Int)) := by omega
  have HL := Lib.hid hl
  clear hl
  go_wp2_with fail
  refine callWR (W0 := W0) (g := g1) (by exact (by repeat (first | exact Below.refl _ _ | refine Ext.al ?_ _ | refine Ext.dr ?_ | refine Ext.drN ?_ _ | refine Ext.gr ?_ _ | refine Ext.set ?_ (by simp) _ | (refine Ext.trans' ?_ (by assumption))))) (runR_any b ba sa bcap scap _ (HS.out.ext (by exact (by repeat (first | exact Below.refl _ _ | refine Ext.al ?_ _ | refine Ext.dr ?_ | refine Ext.drN ?_ _ | refine Ext.gr ?_ _ | refine Ext.set ?_ (by simp) _ | (refine Ext.trans' ?_ (by assumption)))))) V.out) (fun _ _ ⟨_, _, r, _⟩ => r) fun _ g4 hgr hr => ?_
  obtain ⟨lv, rfl, -, hown⟩ := hr
  clear hgr
  have hl2 := runL_two V.out
  have hl8 := runL_le V.out
  obtain ⟨L, hL⟩ : ∃ L, L = runL b := ⟨_, rfl⟩
  rw [← hL] at hown hl2 hl8
  have HLL := Lib.hid hL
  obtain ⟨lb, lc, rfl, -, -, -, -⟩ := hown.cellsN (by omega)
  have HLI : Hid (IsInts _ .i64 (.slice (some ⟨lb, 0, none⟩) L.length lc) L) := Lib.hid hown.oneInts
  clear hown hL

  by_cases hl4 : L.length < 4
  · have hl4i : (L.length : Int) < 4 := by omega
    have H4 := Lib.hid hl4
    clear hl4

    go_wp2_with fail
    refine callW (W0 := W0) (g := g4) (by exact (by repeat (first | exact Below.refl _ _ | refine Ext.al ?_ _ | refine Ext.dr ?_ | refine Ext.drN ?_ _ | refine Ext.gr ?_ _ | refine Ext.set ?_ (by simp) _ | (refine Ext.trans' ?_ (by assumption))))) (worksL_any _) fun g5 hgr => ?_
    replace HLI := Lib.hid (HLI.out.ext hgr)
    clear hgr
    go_wp2_with fail
    go_ret
    exact ⟨rfl, HW.out.trans' (grow_below W0 _)⟩

  have hl4i : ¬ ((L.length : Int) < 4) := by omega
  go_upto_region 6 with (fail)
  obtain ⟨U, hU⟩ : ∃ zz9, zz9 = (grow W0 g4) := ⟨_, rfl⟩
  have eU : Ext W0 U := by rw [hU]; exact (by repeat (first | exact Below.refl _ _ | refine Ext.al ?_ _ | refine Ext.dr ?_ | refine Ext.drN ?_ _ | refine Ext.gr ?_ _ | refine Ext.set ?_ (by simp) _ | (refine Ext.trans' ?_ (by assumption))))
  have eUc : Ext (grow W0 g4) U := by rw [hU]; exact (by repeat (first | exact Below.refl _ _ | refine Ext.al ?_ _ | refine Ext.dr ?_ | refine Ext.drN ?_ _ | refine Ext.gr ?_ _ | refine Ext.set ?_ (by simp) _ | (refine Ext.trans' ?_ (by assumption))))
  replace k0 := cell_ext eU k0
  replace k1 := cell_ext eU k1
  replace k2 := cell_ext eU k2
  replace k3 := cell_ext eU k3
  replace k4 := cell_ext eU k4
  replace k5 := cell_ext eU k5
  replace k6 := cell_ext eU k6
  replace k7 := cell_ext eU k7
  replace HS := Lib.hid (HS.out.ext eU)
  replace HNW := Lib.hid (HNW.out.ext eU)
  replace HLI := Lib.hid (HLI.out.ext eUc)
  replace HW := Lib.hid (HW.out.trans' eU)
  rw [← hU]
  replace hz := World.block_lt_of_cell? _ _ k0
  clear hU eU eUc
  obtain ⟨i1, hi1⟩ : ∃ i1, i1 = p1 % L.length := ⟨_, rfl⟩
  obtain ⟨t2, ht2⟩ : ∃ t2, t2 = p2 % (L.length - 1) := ⟨_, rfl⟩
  obtain ⟨i2, hi2⟩ : ∃ i2, i2 = (p1 + 1 + t2) % L.length := ⟨_, rfl⟩
  have hne := two_at (n := L.length) (by omega) p1 p2
  rw [← ht2, ← hi2, ← hi1] at hne
  have hi1l : i1 < L.length := by rw [hi1]; exact Nat.mod_lt _ (by omega)
  have hi2l : i2 < L.length := by rw [hi2]; exact Nat.mod_lt _ (by omega)
  have ht2l : t2 < L.length - 1 := by rw [ht2]; exact Nat.mod_lt _ (by omega)
  have hi1i : (i1 : Int) < (L.length : Int) := by omega
  have hi2i : (i2 : Int) < (L.length : Int) := by omega
  have hm1 : Int.tmod (p1 : Int) (L.length : Int) = (i1 : Int) := by rw [Int.tmod_eq_emod_of_nonneg (by omega), hi1]; rfl
  have hm2 : Int.tmod (p2 : Int) ((L.length : Int) - 1) = (t2 : Int) := by
    rw [Int.tmod_eq_emod_of_nonneg (by omega), ht2]
    have : ((L.length : Int) - 1) = ((L.length - 1 : Nat) : Int) := by omega
    rw [this]; rfl
  have hm3 : Int.tmod ((p1 : Int) + 1 + (t2 : Int)) (L.length : Int) = (i2 : Int) := by
    rw [Int.tmod_eq_emod_of_nonneg (by omega), hi2]; rfl
  have hw1 : IntKind.i64.wrap (p1 : Int) = (p1 : Int) := IntWalk.i64_in _ (by omega)
  have hw2 : IntKind.i64.wrap (p2 : Int) = (p2 : Int) := IntWalk.i64_in _ (by omega)
  have hw3 : IntKind.i64.wrap ((p1 : Int) + 1) = (p1 : Int) + 1 := IntWalk.i64_in _ (by omega)
  have hw4 : IntKind.i64.wrap ((L.length : Int) - 1) = (L.length : Int) - 1 := IntWalk.i64_in _ (by omega)
  have hw5 : IntKind.i64.wrap ((p1 : Int) + 1 + (t2 : Int)) = (p1 : Int) + 1 + (t2 : Int) := IntWalk.i64_in _ (by omega)
  have hw6 : IntKind.i64.wrap (i1 : Int) = (i1 : Int) := IntWalk.i64_in _ (by omega)
  have hw7 : IntKind.i64.wrap (t2 : Int) = (t2 : Int) := IntWalk.i64_in _ (by omega)
  have hw9 : IntKind.i64.wrap (i2 : Int) = (i2 : Int) := IntWalk.i64_in _ (by omega)
  have hnz : ¬ L = [] := fun h => by rw [h] at hl2; simp at hl2
  have hnz1 : ¬ L.length = 0 := by omega
  have hnz2 : ¬ (L.length : Int) - 1 = 0 := by omega
  have hnz3 : ¬ (L.length : Int) = 0 := by omega
  obtain ⟨_, _, he1, hcl⟩ := ints_cell HLI.out hi1l
  cases he1
  obtain ⟨d1, hzl⟩ := hcl U (Below.refl _ _)
  obtain ⟨_, _, he2, hcl2⟩ := ints_cell HLI.out hi2l
  cases he2
  obtain ⟨d2, -⟩ := hcl2 U (Below.refl _ _)
  rw [Nat.zero_add] at d1 d2
  have hnd : L.Nodup := by rw [HLL.out]; exact runL_nodup b
  have hrm : gt L i1 ∈ runL b := by rw [← HLL.out, ← gt_get hi1l]; exact List.getElem_mem _
  have hsm : gt L i2 ∈ runL b := by rw [← HLL.out, ← gt_get hi2l]; exact List.getElem_mem _
  have hrs : gt L i2 ≠ gt L i1 := fun e => by
    rw [← gt_get hi1l, ← gt_get hi2l] at e
    have hpw := List.pairwise_iff_getElem.1 (List.nodup_iff_pairwise_ne.1 hnd)
    rcases Nat.lt_or_gt_of_ne hne with h | h
    · exact hpw i2 i1 hi2l hi1l h e
    · exact hpw i1 i2 hi1l hi2l h e.symm
  obtain ⟨r, hr⟩ : ∃ r, r = gt L i1 := ⟨_, rfl⟩
  obtain ⟨s, hs⟩ : ∃ s, s = gt L i2 := ⟨_, rfl⟩
  rw [← hr] at d1 hrm hrs
  rw [← hs] at d2 hsm hrs
  have hlen : 4 ≤ (runL b).length := by rw [← HLL.out]; omega
  obtain ⟨u1, u2⟩ := scr_val V.out hrm (by omega)
  obtain ⟨v1, v2⟩ := scr_val V.out hsm (by omega)
  have VU := bval_of u1
  have VV := bval_of v1
  have lu := scr_left V.out hrm VU
  have lv := scr_left V.out hsm VV
  obtain ⟨x1, x2⟩ := scr_val VU (scr_run.2 ⟨hsm, hrs⟩) (by omega)
  obtain ⟨y1, y2⟩ := scr_val VV (scr_run.2 ⟨hrm, fun e => hrs e.symm⟩) (by omega)
  have hhave := scr_have u1 (by have := runL_mem.1 hrm; omega)
  have hcomm := scr_comm b r s
  have hxl : (scrP (scrP b r) s).scr.length = b.scr.length + 2 := by rw [scr_len, scr_len]
  obtain ⟨BU, hBU⟩ : ∃ BU, BU = scrP b r := ⟨_, rfl⟩
  obtain ⟨BV, hBV⟩ : ∃ BV, BV = scrP b s := ⟨_, rfl⟩
  obtain ⟨BX, hBX⟩ : ∃ BX, BX = scrP BU s := ⟨_, rfl⟩
  rw [← hBU] at u1 x1 x2 hhave hcomm hxl
  rw [← hBV] at v1 y1 y2 hcomm
  rw [← hBX] at x1 hcomm hxl
  have q1 := fun w h => (scratch_any r b ba sa bcap scap w h).mono fun e w' => retScr_ok u2
  have q2 := fun w h => (scratch_any s b ba sa bcap scap w h).mono fun e w' => retScr_ok v2
  have q3 := fun (xa xs : Option Addr) (xc xd : Nat) w h => (scratch_any s BU xa xs xc xd w h).mono fun e w' => retScr_ok x2
  have q4 := fun (xa xs : Option Addr) (xc xd : Nat) w h => (scratch_any r BV xa xs xc xd w h).mono fun e w' => retScr_ok y2
  have q5 := fun (xa xs : Option Addr) (xc xd : Nat) w h => (scratch_any r BU xa xs xc xd w h).mono fun e w' => retScr_no hhave (by decide)
  rw [← hBU] at q1
  rw [← hBV] at q2
  rw [← hBX] at q3
  rw [← hcomm] at q4
  have Q1 := Lib.hid q1
  have Q2 := Lib.hid q2
  have Q3 := Lib.hid q3
  have Q4 := Lib.hid q4
  have Q5 := Lib.hid q5
  have HU1 := Lib.hid u1
  have HV1 := Lib.hid v1
  have HX1 := Lib.hid x1
  have HXL := Lib.hid hxl
  clear q1 q2 q3 q4 q5 u1 u2 v1 v2 x1 x2 y1 y2 VU VV lu lv hhave hcomm hxl hBU hBV hBX hlen hr hs hrm hsm hrs hnd hcl hcl2 hi1 hi2 ht2 hne
  go_upto_region 6 with (fail)
  go_quiet (fail)
  clear hm1 hm2 hm3 hw1 hw2 hw3 hw4 hw5 hw6 hw7 hw9 hi1i hi2i hi1l hi2l ht2l d1 d2 hzl hnz hnz1 hnz2 hnz3
  go_upto_region 7 with (fail)
  obtain ⟨U1, hU1⟩ : ∃ zz9, zz9 = (U.drewN nq) := ⟨_, rfl⟩
  have eU1 : Ext U U1 := by rw [hU1]; exact (by repeat (first | exact Below.refl _ _ | refine Ext.al ?_ _ | refine Ext.dr ?_ | refine Ext.drN ?_ _ | refine Ext.gr ?_ _ | refine Ext.set ?_ (by simp) _ | (refine Ext.trans' ?_ (by assumption))))
  replace k0 := cell_ext eU1 k0
  replace k1 := cell_ext eU1 k1
  replace k2 := cell_ext eU1 k2
  replace k3 := cell_ext eU1 k3
  replace k4 := cell_ext eU1 k4
  replace k5 := cell_ext eU1 k5
  replace k6 := cell_ext eU1 k6
  replace k7 := cell_ext eU1 k7
  replace HS := Lib.hid (HS.out.ext eU1)
  replace HNW := Lib.hid (HNW.out.ext eU1)
  replace HLI := Lib.hid (HLI.out.ext eU1)
  replace HW := Lib.hid (HW.out.trans' eU1)
  rw [← hU1]
  replace hz := World.block_lt_of_cell? _ _ k0
  clear hU1 eU1
  go_wp2_with fail
  refine callWR (W0 := U1) (g := ⟨U1, Below.refl _ _⟩) (by exact (by repeat (first | exact Below.refl _ _ | refine Ext.al ?_ _ | refine Ext.dr ?_ | refine Ext.drN ?_ _ | refine Ext.gr ?_ _ | refine Ext.set ?_ (by simp) _ | (refine Ext.trans' ?_ (by assumption))))) (Q1.out _ (HS.out.ext (by exact (by repeat (first | exact Below.refl _ _ | refine Ext.al ?_ _ | refine Ext.dr ?_ | refine Ext.drN ?_ _ | refine Ext.gr ?_ _ | refine Ext.set ?_ (by simp) _ | (refine Ext.trans' ?_ (by assumption))))))) (fun _ _ h => h.1) fun _ g6 hgr hr => ?_
  obtain ⟨-, ua, us, uc, ud, rfl, hI⟩ := hr
  clear hgr
  simp only [bookV]
  have HU := Lib.hid hI
  clear hI

  go_upto_region 8 with (fail)
  obtain ⟨U2, hU2⟩ : ∃ zz9, zz9 = (grow U1 g6).alloc (.cells #[.int .i64 BU.kd, .int .i64 BU.n, .slice ua BU.bets.length uc, .slice us BU.scr.length ud, .bool BU.fav, .int .i64 BU.car, .int .i64 BU.duty, .int .i64 BU.step] 25) := ⟨_, rfl⟩
  have u0 : U2.cell? ⟨(grow U1 g6).heap.size, 0, none⟩ = some (.int .i64 BU.kd) := by rw [hU2]; simp [go_sem]
  have u1 : U2.cell? ⟨(grow U1 g6).heap.size, 1, none⟩ = some (.int .i64 BU.n) := by rw [hU2]; simp [go_sem]
  have u2 : U2.cell? ⟨(grow U1 g6).heap.size, 2, none⟩ = some (.slice ua BU.bets.length uc) := by rw [hU2]; simp [go_sem]
  have u3 : U2.cell? ⟨(grow U1 g6).heap.size, 3, none⟩ = some (.slice us BU.scr.length ud) := by rw [hU2]; simp [go_sem]
  have u4 : U2.cell? ⟨(grow U1 g6).heap.size, 4, none⟩ = some (.bool BU.fav) := by rw [hU2]; simp [go_sem]
  have u5 : U2.cell? ⟨(grow U1 g6).heap.size, 5, none⟩ = some (.int .i64 BU.car) := by rw [hU2]; simp [go_sem]
  have u6 : U2.cell? ⟨(grow U1 g6).heap.size, 6, none⟩ = some (.int .i64 BU.duty) := by rw [hU2]; simp [go_sem]
  have u7 : U2.cell? ⟨(grow U1 g6).heap.size, 7, none⟩ = some (.int .i64 BU.step) := by rw [hU2]; simp [go_sem]
  have eU2 : Ext U1 U2 := by rw [hU2]; exact (by repeat (first | exact Below.refl _ _ | refine Ext.al ?_ _ | refine Ext.dr ?_ | refine Ext.drN ?_ _ | refine Ext.gr ?_ _ | refine Ext.set ?_ (by simp) _ | (refine Ext.trans' ?_ (by assumption))))
  have eU2c : Ext (grow U1 g6) U2 := by rw [hU2]; exact (by repeat (first | exact Below.refl _ _ | refine Ext.al ?_ _ | refine Ext.dr ?_ | refine Ext.drN ?_ _ | refine Ext.gr ?_ _ | refine Ext.set ?_ (by simp) _ | (refine Ext.trans' ?_ (by assumption))))
  replace k0 := cell_ext eU2 k0
  replace k1 := cell_ext eU2 k1
  replace k2 := cell_ext eU2 k2
  replace k3 := cell_ext eU2 k3
  replace k4 := cell_ext eU2 k4
  replace k5 := cell_ext eU2 k5
  replace k6 := cell_ext eU2 k6
  replace k7 := cell_ext eU2 k7
  replace HS := Lib.hid (HS.out.ext eU2)
  replace HNW := Lib.hid (HNW.out.ext eU2)
  replace HLI := Lib.hid (HLI.out.ext eU2)
  replace HU := Lib.hid (HU.out.ext eU2c)
  replace HW := Lib.hid (HW.out.trans' eU2)
  rw [← hU2]
  obtain ⟨qu, hqu⟩ : ∃ b, b = (grow U1 g6).heap.size := ⟨_, rfl⟩
  rw [← hqu] at u0 u1 u2 u3 u4 u5 u6 u7 ⊢
  replace hz := World.block_lt_of_cell? _ _ k0
  have zqu := World.block_lt_of_cell? _ _ u0
  simp only at zqu
  clear hU2 eU2 eU2c hqu
  go_wp2_with fail
  refine callWR (W0 := U2) (g := ⟨U2, Below.refl _ _⟩) (by exact (by repeat (first | exact Below.refl _ _ | refine Ext.al ?_ _ | refine Ext.dr ?_ | refine Ext.drN ?_ _ | refine Ext.gr ?_ _ | refine Ext.set ?_ (by simp) _ | (refine Ext.trans' ?_ (by assumption))))) (Q2.out _ (HS.out.ext (by exact (by repeat (first | exact Below.refl _ _ | refine Ext.al ?_ _ | refine Ext.dr ?_ | refine Ext.drN ?_ _ | refine Ext.gr ?_ _ | refine Ext.set ?_ (by simp) _ | (refine Ext.trans' ?_ (by assumption))))))) (fun _ _ h => h.1) fun _ g7 hgr hr => ?_
  obtain ⟨-, va, vs, vc, vd, rfl, hI⟩ := hr
  clear hgr
  simp only [bookV]
  have HV := Lib.hid hI
  clear hI

  go_upto_region 9 with (fail)
  obtain ⟨U3, hU3⟩ : ∃ zz9, zz9 = (grow U2 g7).alloc (.cells #[.int .i64 BV.kd, .int .i64 BV.n, .slice va BV.bets.length vc, .slice vs BV.scr.length vd, .bool BV.fav, .int .i64 BV.car, .int .i64 BV.duty, .int .i64 BV.step] 25) := ⟨_, rfl⟩
  have v0 : U3.cell? ⟨(grow U2 g7).heap.size, 0, none⟩ = some (.int .i64 BV.kd) := by rw [hU3]; simp [go_sem]
  have v1 : U3.cell? ⟨(grow U2 g7).heap.size, 1, none⟩ = some (.int .i64 BV.n) := by rw [hU3]; simp [go_sem]
  have v2 : U3.cell? ⟨(grow U2 g7).heap.size, 2, none⟩ = some (.slice va BV.bets.length vc) := by rw [hU3]; simp [go_sem]
  have v3 : U3.cell? ⟨(grow U2 g7).heap.size, 3, none⟩ = some (.slice vs BV.scr.length vd) := by rw [hU3]; simp [go_sem]
  have v4 : U3.cell? ⟨(grow U2 g7).heap.size, 4, none⟩ = some (.bool BV.fav) := by rw [hU3]; simp [go_sem]
  have v5 : U3.cell? ⟨(grow U2 g7).heap.size, 5, none⟩ = some (.int .i64 BV.car) := by rw [hU3]; simp [go_sem]
  have v6 : U3.cell? ⟨(grow U2 g7).heap.size, 6, none⟩ = some (.int .i64 BV.duty) := by rw [hU3]; simp [go_sem]
  have v7 : U3.cell? ⟨(grow U2 g7).heap.size, 7, none⟩ = some (.int .i64 BV.step) := by rw [hU3]; simp [go_sem]
  have eU3 : Ext U2 U3 := by rw [hU3]; exact (by repeat (first | exact Below.refl _ _ | refine Ext.al ?_ _ | refine Ext.dr ?_ | refine Ext.drN ?_ _ | refine Ext.gr ?_ _ | refine Ext.set ?_ (by simp) _ | (refine Ext.trans' ?_ (by assumption))))
  have eU3c : Ext (grow U2 g7) U3 := by rw [hU3]; exact (by repeat (first | exact Below.refl _ _ | refine Ext.al ?_ _ | refine Ext.dr ?_ | refine Ext.drN ?_ _ | refine Ext.gr ?_ _ | refine Ext.set ?_ (by simp) _ | (refine Ext.trans' ?_ (by assumption))))
  replace k0 := cell_ext eU3 k0
  replace k1 := cell_ext eU3 k1
  replace k2 := cell_ext eU3 k2
  replace k3 := cell_ext eU3 k3
  replace k4 := cell_ext eU3 k4
  replace k5 := cell_ext eU3 k5
  replace k6 := cell_ext eU3 k6
  replace k7 := cell_ext eU3 k7
  replace u0 := cell_ext eU3 u0
  replace u1 := cell_ext eU3 u1
  replace u2 := cell_ext eU3 u2
  replace u3 := cell_ext eU3 u3
  replace u4 := cell_ext eU3 u4
  replace u5 := cell_ext eU3 u5
  replace u6 := cell_ext eU3 u6
  replace u7 := cell_ext eU3 u7
  replace HS := Lib.hid (HS.out.ext eU3)
  replace HNW := Lib.hid (HNW.out.ext eU3)
  replace HLI := Lib.hid (HLI.out.ext eU3)
  replace HU := Lib.hid (HU.out.ext eU3)
  replace HV := Lib.hid (HV.out.ext eU3c)
  replace HW := Lib.hid (HW.out.trans' eU3)
  rw [← hU3]
  obtain ⟨qv, hqv⟩ : ∃ b, b = (grow U2 g7).heap.size := ⟨_, rfl⟩
  rw [← hqv] at v0 v1 v2 v3 v4 v5 v6 v7 ⊢
  replace hz := World.block_lt_of_cell? _ _ k0
  replace zqu := World.block_lt_of_cell? _ _ u0
  have zqv := World.block_lt_of_cell? _ _ v0
  simp only at zqv
  clear hU3 eU3 eU3c hqv
  go_wp2_with fail
  refine callW (W0 := U3) (g := ⟨U3, Below.refl _ _⟩) (by exact (by repeat (first | exact Below.refl _ _ | refine Ext.al ?_ _ | refine Ext.dr ?_ | refine Ext.drN ?_ _ | refine Ext.gr ?_ _ | refine Ext.set ?_ (by simp) _ | (refine Ext.trans' ?_ (by assumption))))) (refCheck_any BU ua us uc ud _ (HU.out.ext (by exact (by repeat (first | exact Below.refl _ _ | refine Ext.al ?_ _ | refine Ext.dr ?_ | refine Ext.drN ?_ _ | refine Ext.gr ?_ _ | refine Ext.set ?_ (by simp) _ | (refine Ext.trans' ?_ (by assumption))))))) fun g8 hgr => ?_
  clear hgr
  rw [HU1.out]
  go_wp2_with fail
  refine callW (W0 := U3) (g := g8) (by exact (by repeat (first | exact Below.refl _ _ | refine Ext.al ?_ _ | refine Ext.dr ?_ | refine Ext.drN ?_ _ | refine Ext.gr ?_ _ | refine Ext.set ?_ (by simp) _ | (refine Ext.trans' ?_ (by assumption))))) (refCheck_any BV va vs vc vd _ (HV.out.ext (by exact (by repeat (first | exact Below.refl _ _ | refine Ext.al ?_ _ | refine Ext.dr ?_ | refine Ext.drN ?_ _ | refine Ext.gr ?_ _ | refine Ext.set ?_ (by simp) _ | (refine Ext.trans' ?_ (by assumption))))))) fun g9 hgr => ?_
  clear hgr
  rw [HV1.out]
  go_wp2_with fail
  refine callWR (W0 := U3) (g := g9) (by exact (by repeat (first | exact Below.refl _ _ | refine Ext.al ?_ _ | refine Ext.dr ?_ | refine Ext.drN ?_ _ | refine Ext.gr ?_ _ | refine Ext.set ?_ (by simp) _ | (refine Ext.trans' ?_ (by assumption))))) (Q3.out ua us uc ud _ (HU.out.ext (by exact (by repeat (first | exact Below.refl _ _ | refine Ext.al ?_ _ | refine Ext.dr ?_ | refine Ext.drN ?_ _ | refine Ext.gr ?_ _ | refine Ext.set ?_ (by simp) _ | (refine Ext.trans' ?_ (by assumption))))))) (fun _ _ h => h.1) fun _ g10 hgr hr => ?_
  obtain ⟨-, xa, xs, xc, xd, rfl, hI⟩ := hr
  clear hgr
  simp only [bookV]
  have HX := Lib.hid hI
  clear hI

  go_upto_region 12 with (fail)
  obtain ⟨U4, hU4⟩ : ∃ zz9, zz9 = (grow U3 g10).alloc (.cells #[.int .i64 BX.kd, .int .i64 BX.n, .slice xa BX.bets.length xc, .slice xs BX.scr.length xd, .bool BX.fav, .int .i64 BX.car, .int .i64 BX.duty, .int .i64 BX.step] 25) := ⟨_, rfl⟩
  have x0 : U4.cell? ⟨(grow U3 g10).heap.size, 0, none⟩ = some (.int .i64 BX.kd) := by rw [hU4]; simp [go_sem]
  have x1 : U4.cell? ⟨(grow U3 g10).heap.size, 1, none⟩ = some (.int .i64 BX.n) := by rw [hU4]; simp [go_sem]
  have x2 : U4.cell? ⟨(grow U3 g10).heap.size, 2, none⟩ = some (.slice xa BX.bets.length xc) := by rw [hU4]; simp [go_sem]
  have x3 : U4.cell? ⟨(grow U3 g10).heap.size, 3, none⟩ = some (.slice xs BX.scr.length xd) := by rw [hU4]; simp [go_sem]
  have x4 : U4.cell? ⟨(grow U3 g10).heap.size, 4, none⟩ = some (.bool BX.fav) := by rw [hU4]; simp [go_sem]
  have x5 : U4.cell? ⟨(grow U3 g10).heap.size, 5, none⟩ = some (.int .i64 BX.car) := by rw [hU4]; simp [go_sem]
  have x6 : U4.cell? ⟨(grow U3 g10).heap.size, 6, none⟩ = some (.int .i64 BX.duty) := by rw [hU4]; simp [go_sem]
  have x7 : U4.cell? ⟨(grow U3 g10).heap.size, 7, none⟩ = some (.int .i64 BX.step) := by rw [hU4]; simp [go_sem]
  have eU4 : Ext U3 U4 := by rw [hU4]; exact (by repeat (first | exact Below.refl _ _ | refine Ext.al ?_ _ | refine Ext.dr ?_ | refine Ext.drN ?_ _ | refine Ext.gr ?_ _ | refine Ext.set ?_ (by simp) _ | (refine Ext.trans' ?_ (by assumption))))
  have eU4c : Ext (grow U3 g10) U4 := by rw [hU4]; exact (by repeat (first | exact Below.refl _ _ | refine Ext.al ?_ _ | refine Ext.dr ?_ | refine Ext.drN ?_ _ | refine Ext.gr ?_ _ | refine Ext.set ?_ (by simp) _ | (refine Ext.trans' ?_ (by assumption))))
  replace k0 := cell_ext eU4 k0
  replace k1 := cell_ext eU4 k1
  replace k2 := cell_ext eU4 k2
  replace k3 := cell_ext eU4 k3
  replace k4 := cell_ext eU4 k4
  replace k5 := cell_ext eU4 k5
  replace k6 := cell_ext eU4 k6
  replace k7 := cell_ext eU4 k7
  replace u0 := cell_ext eU4 u0
  replace u1 := cell_ext eU4 u1
  replace u2 := cell_ext eU4 u2
  replace u3 := cell_ext eU4 u3
  replace u4 := cell_ext eU4 u4
  replace u5 := cell_ext eU4 u5
  replace u6 := cell_ext eU4 u6
  replace u7 := cell_ext eU4 u7
  replace v0 := cell_ext eU4 v0
  replace v1 := cell_ext eU4 v1
  replace v2 := cell_ext eU4 v2
  replace v3 := cell_ext eU4 v3
  replace v4 := cell_ext eU4 v4
  replace v5 := cell_ext eU4 v5
  replace v6 := cell_ext eU4 v6
  replace v7 := cell_ext eU4 v7
  replace HS := Lib.hid (HS.out.ext eU4)
  replace HNW := Lib.hid (HNW.out.ext eU4)
  replace HLI := Lib.hid (HLI.out.ext eU4)
  replace HU := Lib.hid (HU.out.ext eU4)
  replace HV := Lib.hid (HV.out.ext eU4)
  replace HX := Lib.hid (HX.out.ext eU4c)
  replace HW := Lib.hid (HW.out.trans' eU4)
  rw [← hU4]
  obtain ⟨qx, hqx⟩ : ∃ b, b = (grow U3 g10).heap.size := ⟨_, rfl⟩
  rw [← hqx] at x0 x1 x2 x3 x4 x5 x6 x7 ⊢
  replace hz := World.block_lt_of_cell? _ _ k0
  replace zqu := World.block_lt_of_cell? _ _ u0
  replace zqv := World.block_lt_of_cell? _ _ v0
  have zqx := World.block_lt_of_cell? _ _ x0
  simp only at zqx
  clear hU4 eU4 eU4c hqx
  go_wp2_with fail
  refine callWR (W0 := U4) (g := ⟨U4, Below.refl _ _⟩) (by exact (by repeat (first | exact Below.refl _ _ | refine Ext.al ?_ _ | refine Ext.dr ?_ | refine Ext.drN ?_ _ | refine Ext.gr ?_ _ | refine Ext.set ?_ (by simp) _ | (refine Ext.trans' ?_ (by assumption))))) (Q4.out va vs vc vd _ (HV.out.ext (by exact (by repeat (first | exact Below.refl _ _ | refine Ext.al ?_ _ | refine Ext.dr ?_ | refine Ext.drN ?_ _ | refine Ext.gr ?_ _ | refine Ext.set ?_ (by simp) _ | (refine Ext.trans' ?_ (by assumption))))))) (fun _ _ h => h.1) fun _ g11 hgr hr => ?_
  obtain ⟨-, ya, ys, yc, yd, rfl, hI⟩ := hr
  clear hgr
  simp only [bookV]
  have HY := Lib.hid hI
  clear hI

  go_upto_region 13 with (fail)
  obtain ⟨U5, hU5⟩ : ∃ zz9, zz9 = (grow U4 g11).alloc (.cells #[.int .i64 BX.kd, .int .i64 BX.n, .slice ya BX.bets.length yc, .slice ys BX.scr.length yd, .bool BX.fav, .int .i64 BX.car, .int .i64 BX.duty, .int .i64 BX.step] 25) := ⟨_, rfl⟩
  have y0 : U5.cell? ⟨(grow U4 g11).heap.size, 0, none⟩ = some (.int .i64 BX.kd) := by rw [hU5]; simp [go_sem]
  have y1 : U5.cell? ⟨(grow U4 g11).heap.size, 1, none⟩ = some (.int .i64 BX.n) := by rw [hU5]; simp [go_sem]
  have y2 : U5.cell? ⟨(grow U4 g11).heap.size, 2, none⟩ = some (.slice ya BX.bets.length yc) := by rw [hU5]; simp [go_sem]
  have y3 : U5.cell? ⟨(grow U4 g11).heap.size, 3, none⟩ = some (.slice ys BX.scr.length yd) := by rw [hU5]; simp [go_sem]
  have y4 : U5.cell? ⟨(grow U4 g11).heap.size, 4, none⟩ = some (.bool BX.fav) := by rw [hU5]; simp [go_sem]
  have y5 : U5.cell? ⟨(grow U4 g11).heap.size, 5, none⟩ = some (.int .i64 BX.car) := by rw [hU5]; simp [go_sem]
  have y6 : U5.cell? ⟨(grow U4 g11).heap.size, 6, none⟩ = some (.int .i64 BX.duty) := by rw [hU5]; simp [go_sem]
  have y7 : U5.cell? ⟨(grow U4 g11).heap.size, 7, none⟩ = some (.int .i64 BX.step) := by rw [hU5]; simp [go_sem]
  have eU5 : Ext U4 U5 := by rw [hU5]; exact (by repeat (first | exact Below.refl _ _ | refine Ext.al ?_ _ | refine Ext.dr ?_ | refine Ext.drN ?_ _ | refine Ext.gr ?_ _ | refine Ext.set ?_ (by simp) _ | (refine Ext.trans' ?_ (by assumption))))
  have eU5c : Ext (grow U4 g11) U5 := by rw [hU5]; exact (by repeat (first | exact Below.refl _ _ | refine Ext.al ?_ _ | refine Ext.dr ?_ | refine Ext.drN ?_ _ | refine Ext.gr ?_ _ | refine Ext.set ?_ (by simp) _ | (refine Ext.trans' ?_ (by assumption))))
  replace k0 := cell_ext eU5 k0
  replace k1 := cell_ext eU5 k1
  replace k2 := cell_ext eU5 k2
  replace k3 := cell_ext eU5 k3
  replace k4 := cell_ext eU5 k4
  replace k5 := cell_ext eU5 k5
  replace k6 := cell_ext eU5 k6
  replace k7 := cell_ext eU5 k7
  replace u0 := cell_ext eU5 u0
  replace u1 := cell_ext eU5 u1
  replace u2 := cell_ext eU5 u2
  replace u3 := cell_ext eU5 u3
  replace u4 := cell_ext eU5 u4
  replace u5 := cell_ext eU5 u5
  replace u6 := cell_ext eU5 u6
  replace u7 := cell_ext eU5 u7
  replace v0 := cell_ext eU5 v0
  replace v1 := cell_ext eU5 v1
  replace v2 := cell_ext eU5 v2
  replace v3 := cell_ext eU5 v3
  replace v4 := cell_ext eU5 v4
  replace v5 := cell_ext eU5 v5
  replace v6 := cell_ext eU5 v6
  replace v7 := cell_ext eU5 v7
  replace x0 := cell_ext eU5 x0
  replace x1 := cell_ext eU5 x1
  replace x2 := cell_ext eU5 x2
  replace x3 := cell_ext eU5 x3
  replace x4 := cell_ext eU5 x4
  replace x5 := cell_ext eU5 x5
  replace x6 := cell_ext eU5 x6
  replace x7 := cell_ext eU5 x7
  replace HS := Lib.hid (HS.out.ext eU5)
  replace HNW := Lib.hid (HNW.out.ext eU5)
  replace HLI := Lib.hid (HLI.out.ext eU5)
  replace HU := Lib.hid (HU.out.ext eU5)
  replace HV := Lib.hid (HV.out.ext eU5)
  replace HX := Lib.hid (HX.out.ext eU5)
  replace HY := Lib.hid (HY.out.ext eU5c)
  replace HW := Lib.hid (HW.out.trans' eU5)
  rw [← hU5]
  obtain ⟨qy, hqy⟩ : ∃ b, b = (grow U4 g11).heap.size := ⟨_, rfl⟩
  rw [← hqy] at y0 y1 y2 y3 y4 y5 y6 y7 ⊢
  replace hz := World.block_lt_of_cell? _ _ k0
  replace zqu := World.block_lt_of_cell? _ _ u0
  replace zqv := World.block_lt_of_cell? _ _ v0
  replace zqx := World.block_lt_of_cell? _ _ x0
  have zqy := World.block_lt_of_cell? _ _ y0
  simp only at zqy
  clear hU5 eU5 eU5c hqy
  go_wp2_with fail
  refine callW (W0 := U5) (g := ⟨U5, Below.refl _ _⟩) (by exact (by repeat (first | exact Below.refl _ _ | refine Ext.al ?_ _ | refine Ext.dr ?_ | refine Ext.drN ?_ _ | refine Ext.gr ?_ _ | refine Ext.set ?_ (by simp) _ | (refine Ext.trans' ?_ (by assumption))))) (Q5.out ua us uc ud _ (HU.out.ext (by exact (by repeat (first | exact Below.refl _ _ | refine Ext.al ?_ _ | refine Ext.dr ?_ | refine Ext.drN ?_ _ | refine Ext.gr ?_ _ | refine Ext.set ?_ (by simp) _ | (refine Ext.trans' ?_ (by assumption))))))) fun g12 hgr => ?_
  clear hgr
  simp only [noBook]
  go_upto_region 14 with (fail)
  obtain ⟨U6, hU6⟩ : ∃ zz9, zz9 = (grow U5 g12).alloc (.cells #[.int .i64 0, .int .i64 0, .slice none 0 0, .slice none 0 0, .bool false, .int .i64 0, .int .i64 0, .int .i64 0] 25) := ⟨_, rfl⟩
  have eU6 : Ext U5 U6 := by rw [hU6]; exact (by repeat (first | exact Below.refl _ _ | refine Ext.al ?_ _ | refine Ext.dr ?_ | refine Ext.drN ?_ _ | refine Ext.gr ?_ _ | refine Ext.set ?_ (by simp) _ | (refine Ext.trans' ?_ (by assumption))))
  replace k0 := cell_ext eU6 k0
  replace k1 := cell_ext eU6 k1
  replace k2 := cell_ext eU6 k2
  replace k3 := cell_ext eU6 k3
  replace k4 := cell_ext eU6 k4
  replace k5 := cell_ext eU6 k5
  replace k6 := cell_ext eU6 k6
  replace k7 := cell_ext eU6 k7
  replace u0 := cell_ext eU6 u0
  replace u1 := cell_ext eU6 u1
  replace u2 := cell_ext eU6 u2
  replace u3 := cell_ext eU6 u3
  replace u4 := cell_ext eU6 u4
  replace u5 := cell_ext eU6 u5
  replace u6 := cell_ext eU6 u6
  replace u7 := cell_ext eU6 u7
  replace v0 := cell_ext eU6 v0
  replace v1 := cell_ext eU6 v1
  replace v2 := cell_ext eU6 v2
  replace v3 := cell_ext eU6 v3
  replace v4 := cell_ext eU6 v4
  replace v5 := cell_ext eU6 v5
  replace v6 := cell_ext eU6 v6
  replace v7 := cell_ext eU6 v7
  replace x0 := cell_ext eU6 x0
  replace x1 := cell_ext eU6 x1
  replace x2 := cell_ext eU6 x2
  replace x3 := cell_ext eU6 x3
  replace x4 := cell_ext eU6 x4
  replace x5 := cell_ext eU6 x5
  replace x6 := cell_ext eU6 x6
  replace x7 := cell_ext eU6 x7
  replace y0 := cell_ext eU6 y0
  replace y1 := cell_ext eU6 y1
  replace y2 := cell_ext eU6 y2
  replace y3 := cell_ext eU6 y3
  replace y4 := cell_ext eU6 y4
  replace y5 := cell_ext eU6 y5
  replace y6 := cell_ext eU6 y6
  replace y7 := cell_ext eU6 y7
  replace HS := Lib.hid (HS.out.ext eU6)
  replace HNW := Lib.hid (HNW.out.ext eU6)
  replace HLI := Lib.hid (HLI.out.ext eU6)
  replace HU := Lib.hid (HU.out.ext eU6)
  replace HV := Lib.hid (HV.out.ext eU6)
  replace HX := Lib.hid (HX.out.ext eU6)
  replace HY := Lib.hid (HY.out.ext eU6)
  replace HW := Lib.hid (HW.out.trans' eU6)
  rw [← hU6]
  replace hz := World.block_lt_of_cell? _ _ k0
  replace zqu := World.block_lt_of_cell? _ _ u0
  replace zqv := World.block_lt_of_cell? _ _ v0
  replace zqx := World.block_lt_of_cell? _ _ x0
  replace zqy := World.block_lt_of_cell? _ _ y0
  clear hU6 eU6
  clear u0 u1 u2 u3 u4 u5 u6 u7 v0 v1 v2 v3 v4 v5 v6 v7 zqu zqv k1 k2 k4 k5 k6 k7



  have hlen2 : ((BX.scr.length : Int) != (b.scr.length : Int) + 2) = false := by rw [bne_eq_false_iff_eq, HXL.out]; omega
  have hsl := V.out.left
  have hvn := V.out.n
  go_wp2_with fail
  refine callW (W0 := U6) (g := ⟨U6, Below.refl _ _⟩) (by exact (by repeat (first | exact Below.refl _ _ | refine Ext.al ?_ _ | refine Ext.dr ?_ | refine Ext.drN ?_ _ | refine Ext.gr ?_ _ | refine Ext.set ?_ (by simp) _ | (refine Ext.trans' ?_ (by assumption))))) (refCheck_any BX xa xs xc xd _ (HX.out.ext (by exact (by repeat (first | exact Below.refl _ _ | refine Ext.al ?_ _ | refine Ext.dr ?_ | refine Ext.drN ?_ _ | refine Ext.gr ?_ _ | refine Ext.set ?_ (by simp) _ | (refine Ext.trans' ?_ (by assumption))))))) fun g13 hgr => ?_
  clear hgr
  rw [HX1.out]
  go_wp2_with fail
  refine callW (W0 := U6) (g := g13) (by exact (by repeat (first | exact Below.refl _ _ | refine Ext.al ?_ _ | refine Ext.dr ?_ | refine Ext.drN ?_ _ | refine Ext.gr ?_ _ | refine Ext.set ?_ (by simp) _ | (refine Ext.trans' ?_ (by assumption))))) (sameL_any BX xa xs ya ys xc xd yc yd _ (HX.out.ext (by exact (by repeat (first | exact Below.refl _ _ | refine Ext.al ?_ _ | refine Ext.dr ?_ | refine Ext.drN ?_ _ | refine Ext.gr ?_ _ | refine Ext.set ?_ (by simp) _ | (refine Ext.trans' ?_ (by assumption)))))) (HY.out.ext (by exact (by repeat (first | exact Below.refl _ _ | refine Ext.al ?_ _ | refine Ext.dr ?_ | refine Ext.drN ?_ _ | refine Ext.gr ?_ _ | refine Ext.set ?_ (by simp) _ | (refine Ext.trans' ?_ (by assumption))))))) fun g14 hgr => ?_
  clear hgr
  have VX := Lib.hid (bval_of HX1.out)
  go_wp2_with fail
  refine callWR (W0 := U6) (g := g14) (by exact (by repeat (first | exact Below.refl _ _ | refine Ext.al ?_ _ | refine Ext.dr ?_ | refine Ext.drN ?_ _ | refine Ext.gr ?_ _ | refine Ext.set ?_ (by simp) _ | (refine Ext.trans' ?_ (by assumption))))) (finishL_any _ bs BX xa xs xc xd _ (HX.out.ext (by exact (by repeat (first | exact Below.refl _ _ | refine Ext.al ?_ _ | refine Ext.dr ?_ | refine Ext.drN ?_ _ | refine Ext.gr ?_ _ | refine Ext.set ?_ (by simp) _ | (refine Ext.trans' ?_ (by assumption)))))) VX.out (HNW.out.ext (by exact (by repeat (first | exact Below.refl _ _ | refine Ext.al ?_ _ | refine Ext.dr ?_ | refine Ext.drN ?_ _ | refine Ext.gr ?_ _ | refine Ext.set ?_ (by simp) _ | (refine Ext.trans' ?_ (by assumption)))))) H8.out) (fun _ _ ⟨_, _, _, r, _⟩ => r) fun _ g15 hgr hr => ?_
  obtain ⟨fv, ps, rfl, -, hll, hfs⟩ := hr
  clear hgr
  obtain ⟨fa, fcap, rfl, -, -, -⟩ := hll.fin.spec
  have HF := Lib.hid hll.fin
  have FV : Hid (FinV BX (finsOf ps)) := Lib.hid (by rw [hfs]; exact finL_val VX.out bs)
  have FE := Lib.hid (finErr_of HX1.out FV.out)
  clear hll hfs hlen2

  obtain ⟨A, hA⟩ : ∃ A, A = accA BX (finsOf ps) := ⟨_, rfl⟩
  have t1 := fun w h1 h2 => account_any ps (.slice fa ps.length fcap) BX xa xs xc xd w h1 h2
  have t2 := fun w h1 h2 => account_any ps (.slice fa ps.length fcap) BX ya ys yc yd w h1 h2
  rw [accE_ok FE.out, ← hA] at t1 t2
  have qA := fun W => acc_eql A W
  simp only [accV, accC] at t1 t2 qA
  have T1 := Lib.hid t1
  have T2 := Lib.hid t2
  clear t1 t2 hA
  go_wp2_with fail
  refine callW (W0 := U6) (g := g15) (by exact (by repeat (first | exact Below.refl _ _ | refine Ext.al ?_ _ | refine Ext.dr ?_ | refine Ext.drN ?_ _ | refine Ext.gr ?_ _ | refine Ext.set ?_ (by simp) _ | (refine Ext.trans' ?_ (by assumption))))) (T1.out _ (HX.out.ext (by exact (by repeat (first | exact Below.refl _ _ | refine Ext.al ?_ _ | refine Ext.dr ?_ | refine Ext.drN ?_ _ | refine Ext.gr ?_ _ | refine Ext.set ?_ (by simp) _ | (refine Ext.trans' ?_ (by assumption)))))) (HF.out.ext (by exact (by repeat (first | exact Below.refl _ _ | refine Ext.al ?_ _ | refine Ext.dr ?_ | refine Ext.drN ?_ _ | refine Ext.gr ?_ _ | refine Ext.set ?_ (by simp) _ | (refine Ext.trans' ?_ (by assumption))))))) fun g16 hgr => ?_
  replace HF := Lib.hid (HF.out.ext hgr)
  clear hgr
  go_upto_region 18 with (fail)
  obtain ⟨U7, hU7⟩ : ∃ zz9, zz9 = (grow U6 g16).alloc (.cells #[.int .i64 A.i, .int .i64 A.k, .int .i64 A.d, .int .i64 A.p, .int .i64 A.q, .int .i64 A.o] 48) := ⟨_, rfl⟩
  have a0 : U7.cell? ⟨(grow U6 g16).heap.size, 0, none⟩ = some (.int .i64 A.i) := by rw [hU7]; simp [go_sem]
  have a1 : U7.cell? ⟨(grow U6 g16).heap.size, 1, none⟩ = some (.int .i64 A.k) := by rw [hU7]; simp [go_sem]
  have a2 : U7.cell? ⟨(grow U6 g16).heap.size, 2, none⟩ = some (.int .i64 A.d) := by rw [hU7]; simp [go_sem]
  have a3 : U7.cell? ⟨(grow U6 g16).heap.size, 3, none⟩ = some (.int .i64 A.p) := by rw [hU7]; simp [go_sem]
  have a4 : U7.cell? ⟨(grow U6 g16).heap.size, 4, none⟩ = some (.int .i64 A.q) := by rw [hU7]; simp [go_sem]
  have a5 : U7.cell? ⟨(grow U6 g16).heap.size, 5, none⟩ = some (.int .i64 A.o) := by rw [hU7]; simp [go_sem]
  have eU7 : Ext U6 U7 := by rw [hU7]; exact (by repeat (first | exact Below.refl _ _ | refine Ext.al ?_ _ | refine Ext.dr ?_ | refine Ext.drN ?_ _ | refine Ext.gr ?_ _ | refine Ext.set ?_ (by simp) _ | (refine Ext.trans' ?_ (by assumption))))
  have eU7c : Ext (grow U6 g16) U7 := by rw [hU7]; exact (by repeat (first | exact Below.refl _ _ | refine Ext.al ?_ _ | refine Ext.dr ?_ | refine Ext.drN ?_ _ | refine Ext.gr ?_ _ | refine Ext.set ?_ (by simp) _ | (refine Ext.trans' ?_ (by assumption))))
  replace k0 := cell_ext eU7 k0
  replace k3 := cell_ext eU7 k3
  replace x0 := cell_ext eU7 x0
  replace x1 := cell_ext eU7 x1
  replace x2 := cell_ext eU7 x2
  replace x3 := cell_ext eU7 x3
  replace x4 := cell_ext eU7 x4
  replace x5 := cell_ext eU7 x5
  replace x6 := cell_ext eU7 x6
  replace x7 := cell_ext eU7 x7
  replace y0 := cell_ext eU7 y0
  replace y1 := cell_ext eU7 y1
  replace y2 := cell_ext eU7 y2
  replace y3 := cell_ext eU7 y3
  replace y4 := cell_ext eU7 y4
  replace y5 := cell_ext eU7 y5
  replace y6 := cell_ext eU7 y6
  replace y7 := cell_ext eU7 y7
  replace HS := Lib.hid (HS.out.ext eU7)
  replace HNW := Lib.hid (HNW.out.ext eU7)
  replace HX := Lib.hid (HX.out.ext eU7)
  replace HY := Lib.hid (HY.out.ext eU7)
  replace HF := Lib.hid (HF.out.ext eU7c)
  replace HW := Lib.hid (HW.out.trans' eU7)
  rw [← hU7]
  obtain ⟨qa, hqa⟩ : ∃ b, b = (grow U6 g16).heap.size := ⟨_, rfl⟩
  rw [← hqa] at a0 a1 a2 a3 a4 a5 ⊢
  replace hz := World.block_lt_of_cell? _ _ k0
  replace zqx := World.block_lt_of_cell? _ _ x0
  replace zqy := World.block_lt_of_cell? _ _ y0
  have zqa := World.block_lt_of_cell? _ _ a0
  simp only at zqa
  clear hU7 eU7 eU7c hqa
  go_wp2_with fail
  refine callW (W0 := U7) (g := ⟨U7, Below.refl _ _⟩) (by exact (by repeat (first | exact Below.refl _ _ | refine Ext.al ?_ _ | refine Ext.dr ?_ | refine Ext.drN ?_ _ | refine Ext.gr ?_ _ | refine Ext.set ?_ (by simp) _ | (refine Ext.trans' ?_ (by assumption))))) (T2.out _ (HY.out.ext (by exact (by repeat (first | exact Below.refl _ _ | refine Ext.al ?_ _ | refine Ext.dr ?_ | refine Ext.drN ?_ _ | refine Ext.gr ?_ _ | refine Ext.set ?_ (by simp) _ | (refine Ext.trans' ?_ (by assumption)))))) (HF.out.ext (by exact (by repeat (first | exact Below.refl _ _ | refine Ext.al ?_ _ | refine Ext.dr ?_ | refine Ext.drN ?_ _ | refine Ext.gr ?_ _ | refine Ext.set ?_ (by simp) _ | (refine Ext.trans' ?_ (by assumption))))))) fun g17 hgr => ?_
  clear hgr
  go_upto_region 19 with (fail)
  obtain ⟨U8, hU8⟩ : ∃ zz9, zz9 = (grow U7 g17).alloc (.cells #[.int .i64 A.i, .int .i64 A.k, .int .i64 A.d, .int .i64 A.p, .int .i64 A.q, .int .i64 A.o] 48) := ⟨_, rfl⟩
  have c0 : U8.cell? ⟨(grow U7 g17).heap.size, 0, none⟩ = some (.int .i64 A.i) := by rw [hU8]; simp [go_sem]
  have c1 : U8.cell? ⟨(grow U7 g17).heap.size, 1, none⟩ = some (.int .i64 A.k) := by rw [hU8]; simp [go_sem]
  have c2 : U8.cell? ⟨(grow U7 g17).heap.size, 2, none⟩ = some (.int .i64 A.d) := by rw [hU8]; simp [go_sem]
  have c3 : U8.cell? ⟨(grow U7 g17).heap.size, 3, none⟩ = some (.int .i64 A.p) := by rw [hU8]; simp [go_sem]
  have c4 : U8.cell? ⟨(grow U7 g17).heap.size, 4, none⟩ = some (.int .i64 A.q) := by rw [hU8]; simp [go_sem]
  have c5 : U8.cell? ⟨(grow U7 g17).heap.size, 5, none⟩ = some (.int .i64 A.o) := by rw [hU8]; simp [go_sem]
  have eU8 : Ext U7 U8 := by rw [hU8]; exact (by repeat (first | exact Below.refl _ _ | refine Ext.al ?_ _ | refine Ext.dr ?_ | refine Ext.drN ?_ _ | refine Ext.gr ?_ _ | refine Ext.set ?_ (by simp) _ | (refine Ext.trans' ?_ (by assumption))))
  replace k0 := cell_ext eU8 k0
  replace k3 := cell_ext eU8 k3
  replace x0 := cell_ext eU8 x0
  replace x1 := cell_ext eU8 x1
  replace x2 := cell_ext eU8 x2
  replace x3 := cell_ext eU8 x3
  replace x4 := cell_ext eU8 x4
  replace x5 := cell_ext eU8 x5
  replace x6 := cell_ext eU8 x6
  replace x7 := cell_ext eU8 x7
  replace y0 := cell_ext eU8 y0
  replace y1 := cell_ext eU8 y1
  replace y2 := cell_ext eU8 y2
  replace y3 := cell_ext eU8 y3
  replace y4 := cell_ext eU8 y4
  replace y5 := cell_ext eU8 y5
  replace y6 := cell_ext eU8 y6
  replace y7 := cell_ext eU8 y7
  replace a0 := cell_ext eU8 a0
  replace a1 := cell_ext eU8 a1
  replace a2 := cell_ext eU8 a2
  replace a3 := cell_ext eU8 a3
  replace a4 := cell_ext eU8 a4
  replace a5 := cell_ext eU8 a5
  replace HS := Lib.hid (HS.out.ext eU8)
  replace HNW := Lib.hid (HNW.out.ext eU8)
  replace HX := Lib.hid (HX.out.ext eU8)
  replace HY := Lib.hid (HY.out.ext eU8)
  replace HF := Lib.hid (HF.out.ext eU8)
  replace HW := Lib.hid (HW.out.trans' eU8)
  rw [← hU8]
  obtain ⟨qb, hqb⟩ : ∃ b, b = (grow U7 g17).heap.size := ⟨_, rfl⟩
  rw [← hqb] at c0 c1 c2 c3 c4 c5 ⊢
  replace hz := World.block_lt_of_cell? _ _ k0
  replace zqx := World.block_lt_of_cell? _ _ x0
  replace zqy := World.block_lt_of_cell? _ _ y0
  replace zqa := World.block_lt_of_cell? _ _ a0
  have zqb := World.block_lt_of_cell? _ _ c0
  simp only at zqb
  clear hU8 eU8 hqb
  go_wp2_with fail
  refine callW (W0 := U8) (g := ⟨U8, Below.refl _ _⟩) (by exact (by repeat (first | exact Below.refl _ _ | refine Ext.al ?_ _ | refine Ext.dr ?_ | refine Ext.drN ?_ _ | refine Ext.gr ?_ _ | refine Ext.set ?_ (by simp) _ | (refine Ext.trans' ?_ (by assumption))))) (worksL_any _) fun g18 hgr => ?_
  clear hgr
  go_wp2_with fail
  go_ret
  exact ⟨rfl, HW.out.trans' (grow_below U8 _)⟩
end Go.Proofs.Ytphajlldghcnnaa
namespace Go.Proofs.Ytphajlldghcnnaa
open Go.RowKit
open Go.ChangeShapes Go.WideShapes Go.ChangeAt in
set_option maxRecDepth 100000 in
theorem poolScratched_lifted (os : Os) (started : os.Started) (H : Type) (enc : TypeId × Value → H) :
    ReturnsInHanded {} Try.checked os 8 .any (Rows.poolScratchedSpec.pre6 enc Try.prog Try.f8 Rows.poolScratchedRow.domain false) (Rows.poolScratchedSpec.post enc Try.prog Try.f8 false true false false) := by
  refine returnsInHanded_of_change (C := Try.checked) own started (by kernel_rfl) Try.func8
    (ChangeSpec.witness6 (enc := enc) (C := Try.checked) false ⟨#[], #[.agg #[.int .i64 0, .int .i64 0, .slice none 0 0, .slice none 0 0, .bool false, .int .i64 0, .int .i64 0, .int .i64 0], .int .u8 0, .int .u8 0, .slice none 0 0], []⟩ 8 (by kernel_rfl) (by kernel_rfl) (by kernel_rfl) (by kernel_rfl)) ?_
  intro W base args ds gs before hval0 hW hcnd _
  have hval : ∀ (j : Nat) t v, Try.f8.params[j]? = some t → args[j]? = some v → Value.okWide Try.prog W .any base t v := hval0
  have hW' := hW
  obtain ⟨p, q, hA0, hV, rfl, hfz, hnd⟩ := hW
  have hA : DataW.TrodAll enc Try.prog W 0 (fun _ => true) true Try.f8.params.toList args.toList ds p := hA0
  rw [Try.params8] at hA hval
  obtain ⟨v0, vs0, d0, ds0, p0, q0, hargs, rfl, rfl, h0, r0⟩ := trodAll_cons hA
  obtain ⟨v1, vs1, d1, ds1, p1, q1, rfl, rfl, rfl, h1, r1⟩ := trodAll_cons r0
  obtain ⟨v2, vs2, d2, ds2, p2, q2, rfl, rfl, rfl, h2, r2⟩ := trodAll_cons r1
  obtain ⟨v3, vs3, d3, ds3, p3, q3, rfl, rfl, rfl, h3, r3⟩ := trodAll_cons r2
  obtain ⟨rfl, rfl, rfl⟩ := trodAll_nil r3
  obtain rfl : args = #[v0, v1, v2, v3] := by cases args; simp_all
  obtain ⟨b, ba, bs, bc, bd, rfl, hb⟩ := openBook (hval 0 25 v0 rfl rfl) h0
  obtain ⟨o, rfl, rfl, rfl, wo⟩ := open_int Try.underlying5 (hval 1 5 v1 rfl rfl) h1
  obtain ⟨t, rfl, rfl, rfl, wt⟩ := open_int Try.underlying5 (hval 2 5 v2 rfl rfl) h2
  obtain ⟨ns, hns, wns⟩ := openNumsK (k := .u8) Try.underlying59 Try.underlying5 (by kernel_rfl) (hval 3 59 v3 rfl rfl) h3
  clear hA0 hval0
  refine (poolScratched_any b ba bs bc bd o t v3 ns W hb wo wt hns wns).mono fun e W' ⟨he, hb⟩ => ?_
  subst he
  exact ⟨_, rfl, law_post laidOut (tb := 4) (hts_of (by kernel_rfl)) (by kernel_rfl) Try.underlying4 hW' rfl rfl hb⟩
theorem poolScratched_holds : Rows.PoolScratchedSaid :=
  OpenClaim.holds_of_wide 8 Try.f8 rfl rfl rfl rfl rfl rfl rfl ⟨rfl, rfl, rfl, rfl, rfl⟩ rfl rfl rfl rfl rfl (by kernel_rfl) Try.func8 (by kernel_rfl)
    (of_decide_eq_true (by kernel_rfl)) (by unfold Func.isWrapper; first | (rw [if_pos (by decide +kernel)]; kernel_rfl) | (rw [if_neg (by decide +kernel)]; exact ⟨rfl, rfl⟩))
    (fun os started H enc _ => poolScratched_lifted os started H enc)
end Go.Proofs.Ytphajlldghcnnaa
