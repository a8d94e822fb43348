/-
 The statement PoolJoined holds: bets in another order, and two bets made one, change neither the account nor a dividend; for every valid book, a finish, and bets by numbers. No condition.
-/
import Derived.Test.YtphajlldghcnnaaJoinM
import Derived.Test.YtphajlldghcnnaaPn
import Derived.Test.YtphajlldghcnnaaPm
import Derived.Test.YtphajlldghcnnaaBalanced
import Derived.Test.YtphajlldghcnnaaPx
import Derived.Test.YtphajlldghcnnaaRoveG
namespace Go.Proofs.Ytphajlldghcnnaa
open Go.RowKit Go.Shelf
theorem rowsDrop {W : World} {sz b off : Nat} {rows : List (List Value)} (h : RowsAt W sz b off rows) (k : Nat) : RowsAt W sz b (off + k * sz) (rows.drop k) := by
 intro i hi j hj
 rw [List.length_drop] at hi
 have e := h (k + i) (by omega)
 rw [List.getElem_drop] at hj
 have e2 := e j hj
 simp only [List.getElem_drop]
 rw [← e2]
 congr 2
 rw [Nat.add_mul]; omega
theorem rowsTake {W : World} {sz b off : Nat} {rows : List (List Value)} (h : RowsAt W sz b off rows) (k : Nat) : RowsAt W sz b off (rows.take k) := by
 intro i hi j hj
 rw [List.length_take] at hi
 have e := h i (by omega)
 rw [List.getElem_take] at hj
 simp only [List.getElem_take]
 exact e j hj
theorem bets_one {l : List PB} : ∀ r ∈ l.map betRow, ∀ u ∈ r, u.oneCell' = true := by
 intro r hr u hu
 obtain ⟨x, _, rfl⟩ := List.mem_map.1 hr
 simp only [betRow, List.mem_cons, List.not_mem_nil, or_false] at hu
 rcases hu with rfl | rfl | rfl <;> rfl
theorem bets_three {l : List PB} : ∀ r ∈ l.map betRow, r.length = 3 := by
 intro r hr
 obtain ⟨x, _, rfl⟩ := List.mem_map.1 hr
 rfl
/-- two new blocks, each a bet -/
def BetP (W : World) (g : Nat) (x : PB) : Prop := W.heap[g]? = some (.cells #[.int .i64 x.f, .int .i64 x.s, .int .i64 x.u] 62 (0, 0))
def TwoBet (X W : World) (x y : PB) (pv qv : Value) : Prop := ∃ p q : Nat, pv = .pointer (some ⟨p, 0, none⟩) ∧ qv = .pointer (some ⟨q, 0, none⟩) ∧ (X.heap.size ≤ p ∧ X.heap.size ≤ q) ∧ Ext X W ∧ BetP W p x ∧ BetP W q y
/-- numbers stay where a world has been turned in one place that held no number -/
def IntK (Z W : World) : Prop := ∀ a n, Z.cell? a = some (.int .i64 n) → W.cell? a = some (.int .i64 n)
theorem IntK.trans {A B C : World} (h : IntK A B) (k : IntK B C) : IntK A C := fun a n e => k a n (h a n e)
theorem IntK.ext {A B : World} (e : Ext A B) : IntK A B := fun _ _ h => cell_ext e h
theorem intK_row {Z W : World} {Q N : Nat} {v0 v1 s s' v3 v4 v5 v6 v7 : Value} (hs : ∀ n, s ≠ .int .i64 n) (hz : RowB Z Q #[v0, v1, s, v3, v4, v5, v6, v7]) (hw : RowB W Q #[v0, v1, s', v3, v4, v5, v6, v7]) (hN : Z.heap.size ≤ N) (k : Kept (fun g => g < N ∧ g ≠ Q) Z W) : IntK Z W := by
 rintro ⟨g, o, t⟩ n h
 by_cases e : g = Q
 ·subst e
  cases t with
  | none =>
   rw [hz.cell o] at h
   rw [hw.cell o]
   match o, h with
   | 0, h => exact h
   | 1, h => exact h
   | 2, h => exact absurd (Option.some.inj h) (hs n)
   | 3, h => exact h
   | 4, h => exact h
   | 5, h => exact h
   | 6, h => exact h
   | 7, h => exact h
   | o + 8, h => simp at h
  | some t =>
   have hz' : Z.heap[g]? = _ := hz
   simp [World.cell?, hz'] at h
 ·have hlt := World.block_lt_of_cell? _ _ h
  exact k.cell h ⟨by simp only at hlt ⊢; omega, e⟩
theorem intK_acc {W : World} {q : Nat} {A : Acc} (h : AccAt W q A) : IntK W ((((((W.setCell ⟨q, 0, none⟩ (.int .i64 A.i)).setCell ⟨q, 1, none⟩ (.int .i64 A.k)).setCell ⟨q, 2, none⟩ (.int .i64 A.d)).setCell ⟨q, 3, none⟩ (.int .i64 A.p)).setCell ⟨q, 4, none⟩ (.int .i64 A.q)).setCell ⟨q, 5, none⟩ (.int .i64 A.o)) := by
 rintro ⟨g, o, t⟩ n hc
 have hlt := World.block_lt_of_cell? _ _ hc
 simp only at hlt
 have e : ((((((W.setCell ⟨q, 0, none⟩ (.int .i64 A.i)).setCell ⟨q, 1, none⟩ (.int .i64 A.k)).setCell ⟨q, 2, none⟩ (.int .i64 A.d)).setCell ⟨q, 3, none⟩ (.int .i64 A.p)).setCell ⟨q, 4, none⟩ (.int .i64 A.q)).setCell ⟨q, 5, none⟩ (.int .i64 A.o)).heap[g]? = W.heap[g]? := by
  by_cases hg : g = q
  ·subst hg
   exact (acc_set6 h A.i A.k A.d A.p A.q A.o).trans h.symm
  ·have hk : Kept (fun k => k ≠ q) W ((((((W.setCell ⟨q, 0, none⟩ (.int .i64 A.i)).setCell ⟨q, 1, none⟩ (.int .i64 A.k)).setCell ⟨q, 2, none⟩ (.int .i64 A.d)).setCell ⟨q, 3, none⟩ (.int .i64 A.p)).setCell ⟨q, 4, none⟩ (.int .i64 A.q)).setCell ⟨q, 5, none⟩ (.int .i64 A.o)) := ((((((Kept.refl _ W).setCell (fun _ h => h rfl) _).setCell (fun _ h => h rfl) _).setCell (fun _ h => h rfl) _).setCell (fun _ h => h rfl) _).setCell (fun _ h => h rfl) _).setCell (fun _ h => h rfl) _
   exact hk.same g hlt hg
 unfold World.cell? at hc ⊢
 simp only at hc ⊢
 rw [e]
 exact hc
theorem rows_intK {Z W : World} (h : IntK Z W) {v : Value} {D : List Dvd} (hr : IsRows Z 3 v (D.map divRow)) : IsRows W 3 v (D.map divRow) := by
 obtain ⟨sa, cap, h1, h2, h3, h4⟩ := hr
 refine ⟨sa, cap, h1, h2, h3, h4.imp id ?_⟩
 rintro ⟨b, off, e, h4⟩
 refine ⟨b, off, e, fun i hi m hm => ?_⟩
 have h5 := h4 i hi m hm
 have hi' : i < D.length := by simpa using hi
 have hr : (D.map divRow)[i] = divRow D[i] := by simp
 have hm' : m < (divRow D[i]).length := by rw [← hr]; exact hm
 have e2 : (D.map divRow)[i][m] = (divRow D[i])[m] := by simp
 rw [e2] at h5 ⊢
 match m, hm', h5 with
 | 0, _, h5 => exact h _ _ h5
 | 1, _, h5 => exact h _ _ h5
 | 2, _, h5 => exact h _ _ h5
theorem two_al (X : World) (x y : PB) : BetP (((X.alloc (.cells #[.int .i64 x.f, .int .i64 x.s, .int .i64 x.u] 62)).alloc (.cells #[.int .i64 y.f, .int .i64 y.s, .int .i64 y.u] 62)).drew) X.heap.size x ∧ BetP (((X.alloc (.cells #[.int .i64 x.f, .int .i64 x.s, .int .i64 x.u] 62)).alloc (.cells #[.int .i64 y.f, .int .i64 y.s, .int .i64 y.u] 62)).drew) (X.heap.size + 1) y := by
 have h1 : (X.alloc (.cells #[.int .i64 x.f, .int .i64 x.s, .int .i64 x.u] 62)).heap[X.heap.size]? = _ := World.alloc_heap_new X _
 have h2 := World.alloc_heap_new (X.alloc (.cells #[.int .i64 x.f, .int .i64 x.s, .int .i64 x.u] 62)) (.cells #[.int .i64 y.f, .int .i64 y.s, .int .i64 y.u] 62)
 rw [World.size_alloc] at h2
 have e1 : Ext (X.alloc (.cells #[.int .i64 x.f, .int .i64 x.s, .int .i64 x.u] 62)) ((X.alloc (.cells #[.int .i64 x.f, .int .i64 x.s, .int .i64 x.u] 62)).alloc (.cells #[.int .i64 y.f, .int .i64 y.s, .int .i64 y.u] 62)) := by exact xx
 exact ⟨(e1.block _ (by simp)).trans h1, h2⟩
set_option maxRecDepth 200000 in
set_option maxHeartbeats 8000000 in
theorem poolJoined_any (b : Bk) (ba sa : Option Addr) (bcap scap : Nat) (nv : Value) (bs : List Int) (on tw tu : Int) (w : World) (hv : IsBook w b ba bcap sa scap) (hb : IsRows w 1 nv (bs.map fun n => [.int .u8 n])) (hw8 : ∀ x ∈ bs, (Lit.int .u8 x).wf = true) (hon : (Lit.int .u8 on).wf = true) (htw : (Lit.int .u8 tw).wf = true) (htu : (Lit.int .u8 tu).wf = true) : Calls Try.prog 10 #[.agg #[.int .i64 b.kd, .int .i64 b.n, .slice ba b.bets.length bcap, .slice sa b.scr.length scap, .bool b.fav, .int .i64 b.car, .int .i64 b.duty, .int .i64 b.step], nv, .int .u8 on, .int .u8 tw, .int .u8 tu] w fun e w' => e = .returned (.bool true) ∧ Ext w w' := by
 have hbI : IsInts w .u8 nv bs := hb
 obtain ⟨na, ncap, rfl, hn1, hn2, -⟩ := hbI.spec
 have HN := Lib.hid hbI
 have H8 := Lib.hid (u8l hw8)
 clear hb hbI hw8
 have HV := Lib.hid hv
 clear hv
 go_enter Try.func10, Try.ntmps10
 go_upto_region 1 with (fail)
 obtain ⟨W0, hW0⟩ : ∃ W0, W0 = w.alloc (.cells #[.int .i64 b.kd, .int .i64 b.n, .slice ba b.bets.length bcap, .slice sa b.scr.length scap, .bool b.fav, .int .i64 b.car, .int .i64 b.duty, .int .i64 b.step] 25) := ⟨_, rfl⟩
 have hE : Ext w W0 := by rw [hW0]; exact xx
 have k0 : W0.cell? ⟨w.heap.size, 0, none⟩ = some (.int .i64 b.kd) := by rw [hW0]; simp [go_sem]
 have k1 : W0.cell? ⟨w.heap.size, 1, none⟩ = some (.int .i64 b.n) := by rw [hW0]; simp [go_sem]
 have k2 : W0.cell? ⟨w.heap.size, 2, none⟩ = some (.slice ba b.bets.length bcap) := by rw [hW0]; simp [go_sem]
 have k3 : W0.cell? ⟨w.heap.size, 3, none⟩ = some (.slice sa b.scr.length scap) := by rw [hW0]; simp [go_sem]
 have k4 : W0.cell? ⟨w.heap.size, 4, none⟩ = some (.bool b.fav) := by rw [hW0]; simp [go_sem]
 have k5 : W0.cell? ⟨w.heap.size, 5, none⟩ = some (.int .i64 b.car) := by rw [hW0]; simp [go_sem]
 have k6 : W0.cell? ⟨w.heap.size, 6, none⟩ = some (.int .i64 b.duty) := by rw [hW0]; simp [go_sem]
 have k7 : W0.cell? ⟨w.heap.size, 7, none⟩ = some (.int .i64 b.step) := by rw [hW0]; simp [go_sem]
 have hz : w.heap.size < W0.heap.size := World.block_lt_of_cell? _ _ k0
 have HS := Lib.hid (HV.out.ext hE)
 have HW := Lib.hid hE
 rw [← hW0]
 clear hW0 HV
 have HNW := Lib.hid (HN.out.ext hE)
 clear hE HN




 go_wp2_with fail
 refine callW (W0 := W0) (g := ⟨W0, Below.refl _ _⟩) xx (fineL_any b ba sa bcap scap _ (HS.out.ext xx)) fun g1 hgr => ?_
 clear hgr
 cases hfi : fineB b
 ·skip

  go_wp2_with fail
  refine callW (W0 := W0) (g := g1) xx (worksL_any _) fun g2 hgr => ?_
  clear hgr
  go_wp2_with fail
  go_ret
  exact ⟨rfl, HW.out.trans' (grow_below W0 _)⟩

 have H0 := Lib.hid (fine_val hfi)
 have V := Lib.hid (bval_of (fine_val hfi))
 clear hfi
 by_cases hl : 20 < bs.length
 ·have hli : (20 : Int) < (bs.length : Int) := by omega
  have HL := Lib.hid hl
  clear hl

  go_wp2_with fail
  refine callW (W0 := W0) (g := g1) xx (worksL_any _) fun g3 hgr => ?_
  clear hgr
  go_wp2_with fail
  go_ret
  exact ⟨rfl, HW.out.trans' (grow_below W0 _)⟩

 have hli : ¬ ((20 : Int) < (bs.length : Int)) := by omega
 have HL := Lib.hid hl
 clear hl
 by_cases h0 : b.bets.length = 0
 ·have h0b : ((b.bets.length : Int) == 0) = true := by rw [beq_iff_eq]; omega
  have HB0 := Lib.hid h0
  clear h0

  go_wp2_with fail
  refine callW (W0 := W0) (g := g1) xx (worksL_any _) fun g4 hgr => ?_
  clear hgr
  go_wp2_with fail
  go_ret
  exact ⟨rfl, HW.out.trans' (grow_below W0 _)⟩

 have h0b : ((b.bets.length : Int) == 0) = false := by rw [beq_eq_false_iff_ne]; omega
 go_wp2_with fail
 refine callWR (W0 := W0) (g := g1) xx (finishL_any _ bs b ba sa bcap scap _ (HS.out.ext xx) V.out (HNW.out.ext xx) H8.out) (fun _ _ ⟨_, _, _, r, _⟩ => r) fun _ g5 hgr hr => ?_
 obtain ⟨fv, ps, rfl, -, hll, hfs⟩ := hr
 clear hgr
 obtain ⟨fa, fcap, rfl, -, -, -⟩ := hll.fin.spec
 have HF := Lib.hid hll.fin
 have FV : Hid (FinV b (finsOf ps)) := Lib.hid (by rw [hfs]; exact finL_val V.out bs)
 have FE := Lib.hid (finErr_of H0.out FV.out)
 clear hll hfs

 have hmany := V.out.many
 have wb1 := bounds_u8 hon
 have wb2 := bounds_u8 htw
 have wb3 := bounds_u8 htu
 obtain ⟨w1, rfl⟩ : ∃ n : Nat, on = (n : Int) := ⟨on.toNat, by omega⟩
 obtain ⟨w2, rfl⟩ : ∃ n : Nat, tw = (n : Int) := ⟨tw.toNat, by omega⟩
 obtain ⟨w3, rfl⟩ : ∃ n : Nat, tu = (n : Int) := ⟨tu.toNat, by omega⟩
 obtain ⟨k, hk⟩ : ∃ k, k = w3 % b.bets.length := ⟨_, rfl⟩
 have hkl : k < b.bets.length := by rw [hk]; exact Nat.mod_lt _ (by omega)
 have hwx : IntKind.i64.wrap (w3 : Int) = (w3 : Int) := IntWalk.i64_in _ (by omega)
 have hmt : Int.tmod (w3 : Int) (b.bets.length : Int) = (k : Int) := by rw [Int.tmod_eq_emod_of_nonneg (by omega), hk]; rfl
 have hme : (w3 : Int) % (b.bets.length : Int) = (k : Int) := by rw [hk]; rfl
 have hnz : ¬ (b.bets.length : Int) = 0 := by omega
 have hnz1 : ¬ b.bets.length = 0 := h0
 have hnz2 : ¬ b.bets = [] := fun h => h0 (by rw [h]; rfl)
 clear hk h0b hnz2 h0
 have hnz2 : ¬ b.bets = [] := fun h => hnz1 (by rw [h]; rfl)
 go_upto_region 4 with (fail)
 obtain ⟨U, hU⟩ : ∃ zz9, zz9 = (grow W0 g5) := ⟨_, rfl⟩
 have eU : Ext W0 U := by rw [hU]; exact xx
 have eUc : Ext (grow W0 g5) U := by rw [hU]; exact xx
 replace k0 := cell_ext eU k0
 replace k1 := cell_ext eU k1
 replace k2 := cell_ext eU k2
 replace k3 := cell_ext eU k3
 replace k4 := cell_ext eU k4
 replace k5 := cell_ext eU k5
 replace k6 := cell_ext eU k6
 replace k7 := cell_ext eU k7
 replace HS := Lib.hid (HS.out.ext eU)
 replace HNW := Lib.hid (HNW.out.ext eU)
 replace HF := Lib.hid (HF.out.ext eUc)
 replace HW := Lib.hid (HW.out.trans' eU)
 rw [← hU]
 replace hz := World.block_lt_of_cell? _ _ k0
 clear hU eU eUc
 simp only at hz
 go_upto_region 6 with (fail)
 clear hwx hmt hme hnz hnz1 hnz2
 have hbc := HS.out.caps.1
 obtain ⟨bb, off, rfl, hc⟩ := bets_cell HS.out.bets hkl
 have hzd : bb < U.heap.size := (hc U (Below.refl _ _)).2
 have HRA : Hid (RowsAt U 3 bb off (b.bets.map betRow)) := Lib.hid (by
  obtain ⟨sa2, cap2, e1, -, -, e4⟩ := HS.out.bets
  have e5 := (Value.slice.inj e1).1
  subst e5
  rcases e4 with e4 | ⟨b2, o2, e6, e4⟩
  ·rw [List.map_eq_nil_iff] at e4
   rw [e4] at hkl; simp at hkl
  ·cases e6; exact e4)
 have HBC := Lib.hid hc
 obtain ⟨X, hX⟩ : ∃ X, X = U.alloc (.cells #[.int .i64 b.kd, .int .i64 b.n, .slice (some ⟨bb, off, none⟩) b.bets.length bcap, .slice sa b.scr.length scap, .bool b.fav, .int .i64 b.car, .int .i64 b.duty, .int .i64 b.step] 25) := ⟨_, rfl⟩
 obtain ⟨Q, hQ⟩ : ∃ Q, Q = U.heap.size := ⟨_, rfl⟩
 have hrX : RowB X Q #[.int .i64 b.kd, .int .i64 b.n, .slice (some ⟨bb, off, none⟩) b.bets.length bcap, .slice sa b.scr.length scap, .bool b.fav, .int .i64 b.car, .int .i64 b.duty, .int .i64 b.step] := by rw [hX, hQ]; exact World.alloc_heap_new U _
 have hEX : Ext U X := by rw [hX]; exact xx
 have hzQ : Q < X.heap.size := hrX.lt
 rw [← hX, ← hQ]
 have HQ := Lib.hid hQ
 have HRX := Lib.hid hrX
 have HEX := Lib.hid hEX
 have hlow : w.heap.size < Q := by rw [hQ]; exact hz
 have i2 := cell_ext hEX k2
 have hzi : w.heap.size < X.heap.size := by omega
 have hki : (k : Int) ≤ (b.bets.length : Int) := by omega
 have hkl2 : k ≤ b.bets.length := by omega
 have hkc : k ≤ bcap := by omega
 have hkc2 : ¬ bcap = k := by omega
 have hkci : (k : Int) ≤ (bcap : Int) := by omega
 have HMY := Lib.hid hmany
 clear hX hQ hrX hEX hc hmany
 refine wp_region_rove_tail rfl rfl (by kernel_rfl) (X.heap.size) (Nat.le_refl _)
  [sqW (fun v W => IsNew W (X.heap.size) 62 3 v) (fun _ _ _ h e => h.ext e), sqV (.pointer (some ⟨w.heap.size, 2, none⟩)), sqV (.slice (some ⟨bb, off, none⟩) b.bets.length bcap), sqV (.int .i64 k), sqV (.slice (some ⟨bb, off + k * 3, none⟩) (b.bets.length - k) (bcap - k)), sqW (fun v W => Owns W X.heap.size 62 3 v ((b.bets.drop k).map betRow)) (fun _ _ _ h e => h.ext e), sqV (.pointer (some ⟨w.heap.size, 2, none⟩)), sqV (.slice (some ⟨bb, off, none⟩) b.bets.length bcap), sqV (.int .i64 k), sqV (.slice (some ⟨bb, off, none⟩) k bcap), sqW (fun v W => Owns W X.heap.size 62 3 v ((b.bets.drop k).map betRow ++ (b.bets.take k).map betRow)) (fun _ _ _ h e => h.ext e), sqV (.pointer (some ⟨Q, 2, none⟩))]
  [false, true, true, true, true, false, true, true, true, true, false, true] [false, false, false, false, false, false, false, false, false, false, true, false] [false, true, true, true, true, false, true, true, true, true, true, true] [true, true, true, true, true, true, true, true, true, true, true, false]
  (by kernel_rfl) (by kernel_rfl) (by decide +kernel) (by decide +kernel) (by decide +kernel) rfl ⟨rfl, rfl⟩ ⟨?s0, ?s1, ?s2, ?s3, ?s4, ?s5, ?s6, ?s7, ?s8, ?s9, ?s10, ?s11, trivial⟩ [some 53, some 54, some 55, some 56, some 57, some 58, some 59, some 60, some 61, some 62, some 63, some 64] rfl rfl ?send
 case s0 =>
  intro val ρ W hE hz hd hA hx
  exact runq_val (W' := W.alloc (.cells #[] 62)) (v := .slice (some ⟨W.heap.size, 0, none⟩) 0 0) (by simp [execOp, go_sem]) xx (isNew W _ _ _ (by omega))
 case s1 =>
  intro val ρ W hE hz hd hA hx
  have o0 : ρ (.tmp 5) = .pointer (some ⟨w.heap.size, 0, none⟩) := hA.old 5 (by decide)
  clear hd
  exact runq_val (W' := W) (by simp [execOp, o0, go_sem]) (Below.refl _ _) rfl
 case s2 =>
  intro val ρ W hE hz hd hA hx
  have d1 : ρ (.tmp 54) = .pointer (some ⟨w.heap.size, 2, none⟩) := (hA.dep 1 (by decide) 54 rfl).trans (hd 1 (by decide))
  have f_i2 := cell_below hE (by simp only; omega) i2
  clear hd
  exact runq_val (W' := W) (by simp [execOp, d1, f_i2, go_sem]) (Below.refl _ _) rfl
 case s3 =>
  intro val ρ W hE hz hd hA hx
  have o0 : ρ (.tmp 12) = .int .i64 k := hA.old 12 (by decide)
  clear hd
  exact runq_val (W' := W) (by simp [execOp, o0, go_sem]) (Below.refl _ _) rfl
 case s4 =>
  intro val ρ W hE hz hd hA hx
  have d2 : ρ (.tmp 55) = .slice (some ⟨bb, off, none⟩) b.bets.length bcap := (hA.dep 2 (by decide) 55 rfl).trans (hd 2 (by decide))
  have d3 : ρ (.tmp 56) = .int .i64 k := (hA.dep 3 (by decide) 56 rfl).trans (hd 3 (by decide))
  clear hd
  exact runq_val (W' := W) (by simp [execOp, d2, d3, hki, hkl2, hkc, hkc2, hkci, go_sem]) (Below.refl _ _) rfl
 case s6 =>
  intro val ρ W hE hz hd hA hx
  have o0 : ρ (.tmp 5) = .pointer (some ⟨w.heap.size, 0, none⟩) := hA.old 5 (by decide)
  clear hd
  exact runq_val (W' := W) (by simp [execOp, o0, go_sem]) (Below.refl _ _) rfl
 case s7 =>
  intro val ρ W hE hz hd hA hx
  have d6 : ρ (.tmp 59) = .pointer (some ⟨w.heap.size, 2, none⟩) := (hA.dep 6 (by decide) 59 rfl).trans (hd 6 (by decide))
  have f_i2 := cell_below hE (by simp only; omega) i2
  clear hd
  exact runq_val (W' := W) (by simp [execOp, d6, f_i2, go_sem]) (Below.refl _ _) rfl
 case s8 =>
  intro val ρ W hE hz hd hA hx
  have o0 : ρ (.tmp 12) = .int .i64 k := hA.old 12 (by decide)
  clear hd
  exact runq_val (W' := W) (by simp [execOp, o0, go_sem]) (Below.refl _ _) rfl
 case s9 =>
  intro val ρ W hE hz hd hA hx
  have d7 : ρ (.tmp 60) = .slice (some ⟨bb, off, none⟩) b.bets.length bcap := (hA.dep 7 (by decide) 60 rfl).trans (hd 7 (by decide))
  have d8 : ρ (.tmp 61) = .int .i64 k := (hA.dep 8 (by decide) 61 rfl).trans (hd 8 (by decide))
  clear hd
  exact runq_val (W' := W) (by simp [execOp, d7, d8, hki, hkl2, hkc, hkc2, hkci, go_sem]) (Below.refl _ _) rfl
 case s11 =>
  intro val ρ W hE hz hd hA hx
  have o0 : ρ (.tmp 13) = .pointer (some ⟨Q, 0, none⟩) := hA.old 13 (by decide)
  clear hd
  exact runq_val (W' := W) (by simp [execOp, o0, go_sem]) (Below.refl _ _) rfl
 case s5 =>
  intro val ρ W hE hz hd hA hx
  have d0 : IsNew W X.heap.size 62 3 (val 0) := hd 0 (by decide)
  have e0 : ρ (.tmp 53) = val 0 := hA.dep 0 (by decide) 53 rfl
  have d2 : ρ (.tmp 57) = .slice (some ⟨bb, off + k * 3, none⟩) (b.bets.length - k) (bcap - k) := (hA.dep 4 (by decide) 57 rfl).trans (hd 4 (by decide))
  clear hd
  have hS : IsRows W 3 (.slice (some ⟨bb, off + k * 3, none⟩) (b.bets.length - k) (bcap - k)) ((b.bets.drop k).map betRow) := by
   refine ⟨_, _, by rw [List.length_map, List.length_drop], by rw [List.length_map, List.length_drop]; omega, by omega, .inr ⟨_, _, rfl, ?_⟩⟩
   rw [List.map_drop]
   exact rowsDrop ((HRA.out.ext (HEX.out)).ext (hx (by decide))) k
  obtain ⟨v', w', hrun, ho, he⟩ := app_new elBet 22 _ d0 ((b.bets.drop k).map betRow) bets_three hS bets_one (by rw [List.length_map, List.length_drop]; have := HMY.out; omega) hz
  exact runq_append (.tmp 53) (.tmp 57) rfl rfl _ _ e0 d2 hrun he ho
 case s10 =>
  intro val ρ W hE hz hd hA hx
  have d3 : Owns W X.heap.size 62 3 (val 5) ((b.bets.drop k).map betRow) := hd 5 (by decide)
  have e3 : ρ (.tmp 58) = val 5 := hA.dep 5 (by decide) 58 rfl
  have hl : ((b.bets.take k).map betRow).length = k := by rw [List.length_map, List.length_take]; omega
  have e5 : ρ (.tmp 62) = .slice (some ⟨bb, off, none⟩) ((b.bets.take k).map betRow).length bcap := (hA.dep 9 (by decide) 62 rfl).trans ((hd 9 (by decide)).trans (by rw [hl]))
  clear hd
  have hR : RowsAt W 3 bb off ((b.bets.take k).map betRow) := by
   rw [List.map_take]
   exact rowsTake ((HRA.out.ext HEX.out).ext (hx (by decide))) k
  obtain ⟨v', w', hrun, ho, hb⟩ := app_run elBet 22 X.heap.size d3 bb off bcap ((b.bets.take k).map betRow) bets_three hR bets_one (by rw [hl, List.length_map, List.length_drop]; have := HMY.out; omega) hz
  exact runq_append (.tmp 58) (.tmp 62) rfl rfl _ _ e3 e5 hrun hb ho
 case send =>
  intro val WW hE hzz hv
  obtain ⟨-, -, -, -, -, -, -, -, -, -, r10, r11, -⟩ := hv
  replace r10 : Owns WW X.heap.size 62 3 (val 10) ((b.bets.drop k).map betRow ++ (b.bets.take k).map betRow) := r10
  have q11 : val 11 = .pointer (some ⟨Q, 2, none⟩) := r11
  obtain ⟨va, vn, vc, e10⟩ := r10.isSlice
  rw [e10] at r10
  have hr4 := (hE.block Q hzQ).trans HRX.out
  have y2 : WW.cell? ⟨Q, 2, none⟩ = some (.slice (some ⟨bb, off, none⟩) b.bets.length bcap) := by rw [cell_of_row _ _ _ _ _ _ hr4]; rfl
  have yf : WW.frozen? ⟨Q, 2, none⟩ = false := by simp [World.frozen?, hr4]
  have yz := (Array.getElem?_eq_some_iff.1 hr4).1
  have hvn : vn = (rotB b.bets k).length := by
   obtain ⟨_, _, e9, -⟩ := r10.form
   have := (Value.slice.inj e9).2.1
   rw [this]
   unfold rotB
   simp
  subst hvn
  simp only [putD, e10, q11]
  go_frame
  have HR4 := Lib.hid hr4
  have HO4 := Lib.hid r10
  have HE4 := Lib.hid hE
  clear hE hzz r11 q11 e10 hr4 r10 i2 hzi hki hkl2 hkc hkc2 hkci
  go_upto_region 7 with (fail)
  obtain ⟨Y, hY⟩ : ∃ Y, Y = WW.setCell ⟨Q, 2, none⟩ (.slice va (rotB b.bets k).length vc) := ⟨_, rfl⟩
  have hrx : RowB Y Q #[.int .i64 (setB b (rotB b.bets k)).kd, .int .i64 (setB b (rotB b.bets k)).n, .slice va (setB b (rotB b.bets k)).bets.length vc, .slice sa (setB b (rotB b.bets k)).scr.length scap, .bool (setB b (rotB b.bets k)).fav, .int .i64 (setB b (rotB b.bets k)).car, .int .i64 (setB b (rotB b.bets k)).duty, .int .i64 (setB b (rotB b.bets k)).step] := by rw [hY]; exact heap_setCell_row HR4.out 2 _
  have hbx : IsBets Y (.slice va (rotB b.bets k).length vc) (rotB b.bets k) := by
   rw [hY]
   have h1 := (HO4.out.setOther HR4.out (by decide) 2 (.slice va (rotB b.bets k).length vc)).isRows
   unfold IsBets
   unfold rotB
   rw [List.map_append]
   exact h1
  have hEY : Ext U Y := by
   rw [hY]
   exact (HEX.out.trans' HE4.out).setCell (by have := HQ.out; simp only; omega) _
  rw [← hY]
  obtain ⟨x, hx⟩ : ∃ x, x = setB b (rotB b.bets k) := ⟨_, rfl⟩
  have hl : (rotB b.bets k).length = x.bets.length := by rw [hx]; rfl
  have hl2 : rotB b.bets k = x.bets := by rw [hx]; rfl
  rw [← hx] at hrx
  rw [hl2] at hbx
  have VX : Hid (BVal x) := Lib.hid (by rw [hx]; exact rot_val V.out k)
  have HXB : Hid (IsBook Y x va vc sa scap) := Lib.hid ⟨hbx, by
   have h1 := (HS.out.ext hEY).scr
   rw [hx]; exact h1⟩
  obtain ⟨D, hD⟩ : ∃ D, D = divP b (finsOf ps) := ⟨_, rfl⟩
  obtain ⟨A, hA⟩ : ∃ A, A = accA b (finsOf ps) := ⟨_, rfl⟩
  have hall := set_all (rot_sum b.bets k) (finsOf ps)
  rw [← hx, ← hD, ← hA] at hall
  have GV := FV.out.re VX.out (by rw [hx]; rfl)
  have GE := finErr_of (bkErr_of VX.out) GV
  have t1 := fun w h1 h2 => paidL_any ps (.slice fa ps.length fcap) b (some ⟨bb, off, none⟩) sa bcap scap w h1 h2 FE.out
  have t2 := fun w h1 h2 => paidL_any ps (.slice fa ps.length fcap) x va sa vc scap w h1 h2 GE
  unfold RetPaid at t1 t2
  rw [← hD] at t1
  rw [hall.1] at t2
  have t3 := fun w h1 h2 => account_any ps (.slice fa ps.length fcap) b (some ⟨bb, off, none⟩) sa bcap scap w h1 h2
  have t4 := fun w h1 h2 => account_any ps (.slice fa ps.length fcap) x va sa vc scap w h1 h2
  rw [accE_ok FE.out, ← hA] at t3
  rw [accE_ok GE, hall.2] at t4
  simp only [accV, accC] at t3 t4
  have T1 := Lib.hid t1
  have T2 := Lib.hid t2
  have T3 := Lib.hid t3
  have T4 := Lib.hid t4
  have HD := Lib.hid hD
  have HA := Lib.hid hA
  replace k0 := cell_ext hEY k0
  replace k1 := cell_ext hEY k1
  replace k2 := cell_ext hEY k2
  replace k3 := cell_ext hEY k3
  replace k4 := cell_ext hEY k4
  replace k5 := cell_ext hEY k5
  replace k6 := cell_ext hEY k6
  replace k7 := cell_ext hEY k7
  have q0 : Y.cell? ⟨Q, 0, none⟩ = some (.int .i64 x.kd) := by rw [cell_of_row _ _ _ _ _ _ hrx]; rfl
  have q1 : Y.cell? ⟨Q, 1, none⟩ = some (.int .i64 x.n) := by rw [cell_of_row _ _ _ _ _ _ hrx]; rfl
  have q2 : Y.cell? ⟨Q, 2, none⟩ = some (.slice va x.bets.length vc) := by rw [cell_of_row _ _ _ _ _ _ hrx]; rfl
  have q3 : Y.cell? ⟨Q, 3, none⟩ = some (.slice sa x.scr.length scap) := by rw [cell_of_row _ _ _ _ _ _ hrx]; rfl
  have q4 : Y.cell? ⟨Q, 4, none⟩ = some (.bool x.fav) := by rw [cell_of_row _ _ _ _ _ _ hrx]; rfl
  have q5 : Y.cell? ⟨Q, 5, none⟩ = some (.int .i64 x.car) := by rw [cell_of_row _ _ _ _ _ _ hrx]; rfl
  have q6 : Y.cell? ⟨Q, 6, none⟩ = some (.int .i64 x.duty) := by rw [cell_of_row _ _ _ _ _ _ hrx]; rfl
  have q7 : Y.cell? ⟨Q, 7, none⟩ = some (.int .i64 x.step) := by rw [cell_of_row _ _ _ _ _ _ hrx]; rfl
  have zk := World.block_lt_of_cell? _ _ k0
  have zq := World.block_lt_of_cell? _ _ q0
  simp only at zk zq
  have HSU := HS
  have HFU := HF
  replace HS := Lib.hid (HS.out.ext hEY)
  replace HF := Lib.hid (HF.out.ext hEY)
  have HUY := Lib.hid hEY
  have HXX := Lib.hid hx
  have HRY := Lib.hid hrx
  clear t1 t2 t3 t4 hD hA hall GV GE hbx hrx hEY hY HR4 HO4 HE4 HRX HEX yf y2 yz hl hl2 hx hz hzQ





  have HRB := Lib.hid (HRA.out.ext HUY.out)
  go_wp2_with fail
  refine callWR (W0 := Y) (g := ⟨Y, Below.refl _ _⟩) xx (T1.out _ (HS.out.ext xx) (HF.out.ext xx)) (fun _ _ h => h.1) fun _ g1 hgr hr => ?_
  obtain ⟨-, u, rfl, hU⟩ := hr
  clear hgr
  obtain ⟨ua, uc, rfl, hu1, hu2, -⟩ := dvd_cells hU
  have HU := Lib.hid hU
  clear hU

  go_wp2_with fail
  refine callWR (W0 := Y) (g := g1) xx (T2.out _ (HXB.out.ext xx) (HF.out.ext xx)) (fun _ _ h => h.1) fun _ g2 hgr hr => ?_
  obtain ⟨-, u, rfl, hU⟩ := hr
  replace HU := Lib.hid (HU.out.ext hgr)
  clear hgr
  obtain ⟨xa, xc, rfl, hv1, hv2, -⟩ := dvd_cells hU
  have HV2 := Lib.hid hU
  clear hU

  go_wp2_with fail
  refine callW (W0 := Y) (g := g2) xx (T3.out _ (HS.out.ext xx) (HF.out.ext xx)) fun g3 hgr => ?_
  replace HU := Lib.hid (HU.out.ext hgr)
  replace HV2 := Lib.hid (HV2.out.ext hgr)
  clear hgr
  go_upto_region 10 with (fail)
  obtain ⟨U1, hU1⟩ : ∃ zz9, zz9 = (grow Y g3).alloc (.cells #[.int .i64 A.i, .int .i64 A.k, .int .i64 A.d, .int .i64 A.p, .int .i64 A.q, .int .i64 A.o] 48) := ⟨_, rfl⟩
  have a0 : U1.cell? ⟨(grow Y g3).heap.size, 0, none⟩ = some (.int .i64 A.i) := by rw [hU1]; simp [go_sem]
  have a1 : U1.cell? ⟨(grow Y g3).heap.size, 1, none⟩ = some (.int .i64 A.k) := by rw [hU1]; simp [go_sem]
  have a2 : U1.cell? ⟨(grow Y g3).heap.size, 2, none⟩ = some (.int .i64 A.d) := by rw [hU1]; simp [go_sem]
  have a3 : U1.cell? ⟨(grow Y g3).heap.size, 3, none⟩ = some (.int .i64 A.p) := by rw [hU1]; simp [go_sem]
  have a4 : U1.cell? ⟨(grow Y g3).heap.size, 4, none⟩ = some (.int .i64 A.q) := by rw [hU1]; simp [go_sem]
  have a5 : U1.cell? ⟨(grow Y g3).heap.size, 5, none⟩ = some (.int .i64 A.o) := by rw [hU1]; simp [go_sem]
  have eU1 : Ext Y U1 := by rw [hU1]; exact xx
  have eU1c : Ext (grow Y g3) U1 := by rw [hU1]; exact xx
  replace k0 := cell_ext eU1 k0
  replace k1 := cell_ext eU1 k1
  replace k2 := cell_ext eU1 k2
  replace k3 := cell_ext eU1 k3
  replace k4 := cell_ext eU1 k4
  replace k5 := cell_ext eU1 k5
  replace k6 := cell_ext eU1 k6
  replace k7 := cell_ext eU1 k7
  replace q0 := cell_ext eU1 q0
  replace q1 := cell_ext eU1 q1
  replace q2 := cell_ext eU1 q2
  replace q3 := cell_ext eU1 q3
  replace q4 := cell_ext eU1 q4
  replace q5 := cell_ext eU1 q5
  replace q6 := cell_ext eU1 q6
  replace q7 := cell_ext eU1 q7
  replace HS := Lib.hid (HS.out.ext eU1)
  replace HXB := Lib.hid (HXB.out.ext eU1)
  replace HF := Lib.hid (HF.out.ext eU1)
  replace HRB := Lib.hid (HRB.out.ext eU1)
  replace HRY := Lib.hid (HRY.out.ext eU1)
  replace HU := Lib.hid (HU.out.ext eU1c)
  replace HV2 := Lib.hid (HV2.out.ext eU1c)
  replace HUY := Lib.hid (HUY.out.trans' eU1)
  rw [← hU1]
  obtain ⟨qa, hqa⟩ : ∃ b, b = (grow Y g3).heap.size := ⟨_, rfl⟩
  rw [← hqa] at a0 a1 a2 a3 a4 a5 ⊢
  replace zk := World.block_lt_of_cell? _ _ k0
  replace zq := World.block_lt_of_cell? _ _ q0
  have zqa := World.block_lt_of_cell? _ _ a0
  simp only at zqa
  clear hU1 eU1 eU1c hqa
  go_wp2_with fail
  refine callW (W0 := U1) (g := ⟨U1, Below.refl _ _⟩) xx (T4.out _ (HXB.out.ext xx) (HF.out.ext xx)) fun g4 hgr => ?_
  clear hgr
  have hsU1 := HUY.out.size
  go_upto_region 11 with (fail)
  obtain ⟨U2, hU2⟩ : ∃ zz9, zz9 = (grow U1 g4).alloc (.cells #[.int .i64 A.i, .int .i64 A.k, .int .i64 A.d, .int .i64 A.p, .int .i64 A.q, .int .i64 A.o] 48) := ⟨_, rfl⟩
  have c0 : U2.cell? ⟨(grow U1 g4).heap.size, 0, none⟩ = some (.int .i64 A.i) := by rw [hU2]; simp [go_sem]
  have c1 : U2.cell? ⟨(grow U1 g4).heap.size, 1, none⟩ = some (.int .i64 A.k) := by rw [hU2]; simp [go_sem]
  have c2 : U2.cell? ⟨(grow U1 g4).heap.size, 2, none⟩ = some (.int .i64 A.d) := by rw [hU2]; simp [go_sem]
  have c3 : U2.cell? ⟨(grow U1 g4).heap.size, 3, none⟩ = some (.int .i64 A.p) := by rw [hU2]; simp [go_sem]
  have c4 : U2.cell? ⟨(grow U1 g4).heap.size, 4, none⟩ = some (.int .i64 A.q) := by rw [hU2]; simp [go_sem]
  have c5 : U2.cell? ⟨(grow U1 g4).heap.size, 5, none⟩ = some (.int .i64 A.o) := by rw [hU2]; simp [go_sem]
  have eU2 : Ext U1 U2 := by rw [hU2]; exact xx
  replace k0 := cell_ext eU2 k0
  replace k1 := cell_ext eU2 k1
  replace k2 := cell_ext eU2 k2
  replace k3 := cell_ext eU2 k3
  replace k4 := cell_ext eU2 k4
  replace k5 := cell_ext eU2 k5
  replace k6 := cell_ext eU2 k6
  replace k7 := cell_ext eU2 k7
  replace q0 := cell_ext eU2 q0
  replace q1 := cell_ext eU2 q1
  replace q2 := cell_ext eU2 q2
  replace q3 := cell_ext eU2 q3
  replace q4 := cell_ext eU2 q4
  replace q5 := cell_ext eU2 q5
  replace q6 := cell_ext eU2 q6
  replace q7 := cell_ext eU2 q7
  replace a0 := cell_ext eU2 a0
  replace a1 := cell_ext eU2 a1
  replace a2 := cell_ext eU2 a2
  replace a3 := cell_ext eU2 a3
  replace a4 := cell_ext eU2 a4
  replace a5 := cell_ext eU2 a5
  replace HS := Lib.hid (HS.out.ext eU2)
  replace HXB := Lib.hid (HXB.out.ext eU2)
  replace HF := Lib.hid (HF.out.ext eU2)
  replace HRB := Lib.hid (HRB.out.ext eU2)
  replace HRY := Lib.hid (HRY.out.ext eU2)
  replace HU := Lib.hid (HU.out.ext eU2)
  replace HV2 := Lib.hid (HV2.out.ext eU2)
  replace HUY := Lib.hid (HUY.out.trans' eU2)
  rw [← hU2]
  obtain ⟨qb, hqb⟩ : ∃ b, b = (grow U1 g4).heap.size := ⟨_, rfl⟩
  rw [← hqb] at c0 c1 c2 c3 c4 c5 ⊢
  replace zk := World.block_lt_of_cell? _ _ k0
  replace zq := World.block_lt_of_cell? _ _ q0
  replace zqa := World.block_lt_of_cell? _ _ a0
  have zqb := World.block_lt_of_cell? _ _ c0
  simp only at zqb
  have HAQ : Hid (AccAt U2 qb A) := Lib.hid (by rw [hU2, hqb]; exact World.alloc_heap_new _ _)
  have hqbU : U.heap.size ≤ qb := by rw [hqb]; exact Nat.le_trans hsU1 (grow_size _ _)
  clear hU2 eU2 hqb
  have t7 := fun w h1 h2 => dvdsL_any D D (.slice ua D.length uc) (.slice xa D.length xc) w h1 h2
  rw [decide_eq_true rfl] at t7
  have T7 := Lib.hid t7
  have qN := fun W => neq_acc W A A
  simp only [decide_eq_true (rfl : A = A), Bool.not_true] at qN
  clear t7

  go_wp2_with fail
  refine callW (W0 := U2) (g := ⟨U2, Below.refl _ _⟩) xx (T7.out _ (HU.out.ext xx) (HV2.out.ext xx)) fun g5 hgr => ?_
  clear hgr
  go_upto_region 13 with (fail)
  obtain ⟨U3, hU3⟩ : ∃ zz9, zz9 = (grow U2 g5) := ⟨_, rfl⟩
  have eU3 : Ext U2 U3 := by rw [hU3]; exact xx
  replace k0 := cell_ext eU3 k0
  replace k1 := cell_ext eU3 k1
  replace k2 := cell_ext eU3 k2
  replace k3 := cell_ext eU3 k3
  replace k4 := cell_ext eU3 k4
  replace k5 := cell_ext eU3 k5
  replace k6 := cell_ext eU3 k6
  replace k7 := cell_ext eU3 k7
  replace q0 := cell_ext eU3 q0
  replace q1 := cell_ext eU3 q1
  replace q2 := cell_ext eU3 q2
  replace q3 := cell_ext eU3 q3
  replace q4 := cell_ext eU3 q4
  replace q5 := cell_ext eU3 q5
  replace q6 := cell_ext eU3 q6
  replace q7 := cell_ext eU3 q7
  replace a0 := cell_ext eU3 a0
  replace a1 := cell_ext eU3 a1
  replace a2 := cell_ext eU3 a2
  replace a3 := cell_ext eU3 a3
  replace a4 := cell_ext eU3 a4
  replace a5 := cell_ext eU3 a5
  replace c0 := cell_ext eU3 c0
  replace c1 := cell_ext eU3 c1
  replace c2 := cell_ext eU3 c2
  replace c3 := cell_ext eU3 c3
  replace c4 := cell_ext eU3 c4
  replace c5 := cell_ext eU3 c5
  replace HS := Lib.hid (HS.out.ext eU3)
  replace HXB := Lib.hid (HXB.out.ext eU3)
  replace HF := Lib.hid (HF.out.ext eU3)
  replace HRB := Lib.hid (HRB.out.ext eU3)
  replace HRY := Lib.hid (HRY.out.ext eU3)
  replace HU := Lib.hid (HU.out.ext eU3)
  replace HAQ := Lib.hid (HAQ.out.ext eU3)
  replace HV2 := Lib.hid (HV2.out.ext eU3)
  replace HUY := Lib.hid (HUY.out.trans' eU3)
  rw [← hU3]
  replace zk := World.block_lt_of_cell? _ _ k0
  replace zq := World.block_lt_of_cell? _ _ q0
  replace zqa := World.block_lt_of_cell? _ _ a0
  replace zqb := World.block_lt_of_cell? _ _ c0
  clear hU3 eU3
  simp only at zk zq zqa zqb
  obtain ⟨i, hi⟩ : ∃ i, i = w1 % b.bets.length := ⟨_, rfl⟩
  obtain ⟨j, hj⟩ : ∃ j, j = w2 % b.bets.length := ⟨_, rfl⟩
  have hbl : 0 < b.bets.length := by omega
  have hil : i < b.bets.length := by rw [hi]; exact Nat.mod_lt _ hbl
  have hjl : j < b.bets.length := by rw [hj]; exact Nat.mod_lt _ hbl
  have hw1 : IntKind.i64.wrap (w1 : Int) = (w1 : Int) := IntWalk.i64_in _ (by omega)
  have hw2 : IntKind.i64.wrap (w2 : Int) = (w2 : Int) := IntWalk.i64_in _ (by omega)
  have hm1 : Int.tmod (w1 : Int) (b.bets.length : Int) = (i : Int) := by rw [Int.tmod_eq_emod_of_nonneg (by omega), hi]; rfl
  have hm2 : Int.tmod (w2 : Int) (b.bets.length : Int) = (j : Int) := by rw [Int.tmod_eq_emod_of_nonneg (by omega), hj]; rfl
  have hme1 : (w1 : Int) % (b.bets.length : Int) = (i : Int) := by rw [hi]; rfl
  have hme2 : (w2 : Int) % (b.bets.length : Int) = (j : Int) := by rw [hj]; rfl
  have hx1 : IntKind.i64.wrap (i : Int) = (i : Int) := IntWalk.i64_in _ (by have := HMY.out; omega)
  have hx2 : IntKind.i64.wrap (j : Int) = (j : Int) := IntWalk.i64_in _ (by have := HMY.out; omega)
  have hnz : ¬ (b.bets.length : Int) = 0 := by omega
  have hnz1 : ¬ b.bets.length = 0 := by omega
  have hnz2 : ¬ b.bets = [] := fun h => hnz1 (by rw [h]; rfl)
  clear hi hj
  go_quiet (fail)
  obtain ⟨R, hR⟩ : ∃ R, R = U3.drewN nq := ⟨_, rfl⟩
  have hER : Ext U3 R := by rw [hR]; exact Ext.drN (Below.refl _ _) _
  rw [← hR]
  clear hR hw1 hw2 hm1 hm2 hme1 hme2 hx1 hx2 hnz hnz1 hnz2
  go_upto_region 14 with (fail)
  obtain ⟨_, _, e9, hci⟩ := bets_cell HS.out.bets hil
  cases e9
  obtain ⟨⟨d0, d1, d2⟩, hzd2⟩ := hci R hER
  obtain ⟨_, _, e9, hcj⟩ := bets_cell HS.out.bets hjl
  cases e9
  obtain ⟨⟨e0, e1, e2⟩, -⟩ := hcj R hER
  have r2 := cell_ext hER k2
  have rz := World.block_lt_of_cell? _ _ r2
  simp only at rz
  obtain ⟨p, hp⟩ : ∃ p, p = b.bets[i] := ⟨_, rfl⟩
  obtain ⟨q, hq⟩ : ∃ q, q = b.bets[j] := ⟨_, rfl⟩
  rw [← hp] at d0 d1 d2
  rw [← hq] at e0 e1 e2
  have HP := Lib.hid hp
  have HQ3 := Lib.hid hq
  have HER := Lib.hid hER
  have hii : (i : Int) < (b.bets.length : Int) := by omega
  have hjj : (j : Int) < (b.bets.length : Int) := by omega
  clear hER hci hcj hp hq
  go_cut [24, 25] from 126 (fun pv qv wx => TwoBet R wx p q pv qv)
  case first =>
   clear k0 k1 k2 k3 k4 k5 k6 k7 q0 q1 q2 q3 q4 q5 q6 q7 a0 a1 a2 a3 a4 a5 c0 c1 c2 c3 c4 c5 zk zq zqa zqb
   have m1r2 := fun (o1 : Obj) => cell_ext (Ext.al (Below.refl _ R) o1) r2
   have m1d0 := fun (o1 : Obj) => cell_ext (Ext.al (Below.refl _ R) o1) d0
   have m1d1 := fun (o1 : Obj) => cell_ext (Ext.al (Below.refl _ R) o1) d1
   have m1d2 := fun (o1 : Obj) => cell_ext (Ext.al (Below.refl _ R) o1) d2
   have m1e0 := fun (o1 : Obj) => cell_ext (Ext.al (Below.refl _ R) o1) e0
   have m1e1 := fun (o1 : Obj) => cell_ext (Ext.al (Below.refl _ R) o1) e1
   have m1e2 := fun (o1 : Obj) => cell_ext (Ext.al (Below.refl _ R) o1) e2
   have m2r2 := fun (o1 o2 : Obj) => cell_ext (Ext.al (Ext.al (Below.refl _ R) o1) o2) r2
   have m2d0 := fun (o1 o2 : Obj) => cell_ext (Ext.al (Ext.al (Below.refl _ R) o1) o2) d0
   have m2d1 := fun (o1 o2 : Obj) => cell_ext (Ext.al (Ext.al (Below.refl _ R) o1) o2) d1
   have m2d2 := fun (o1 o2 : Obj) => cell_ext (Ext.al (Ext.al (Below.refl _ R) o1) o2) d2
   have m2e0 := fun (o1 o2 : Obj) => cell_ext (Ext.al (Ext.al (Below.refl _ R) o1) o2) e0
   have m2e1 := fun (o1 o2 : Obj) => cell_ext (Ext.al (Ext.al (Below.refl _ R) o1) o2) e1
   have m2e2 := fun (o1 o2 : Obj) => cell_ext (Ext.al (Ext.al (Below.refl _ R) o1) o2) e2
   go_big_region
   all_goals (go_wp2_with fail; go_meet)
   all_goals clear m1r2 m1d0 m1d1 m1d2 m1e0 m1e1 m1e2 m2r2 m2d0 m2d1 m2d2 m2e0 m2e1 m2e2
   all_goals
    obtain ⟨h1, h2⟩ := two_al R p q
    obtain ⟨h3, h4⟩ := two_al R q p
    exact ⟨_, _, rfl, rfl, ⟨by omega, by omega⟩, by exact xx, by first | exact h1 | exact h4, by first | exact h2 | exact h3⟩
  case rest =>
   obtain ⟨gp, gq, rfl, rfl, ⟨hgp, hgq⟩, hE, rp, rq⟩ := hcut
   obtain ⟨V', rfl⟩ : ∃ V', V' = wc := ⟨_, rfl⟩
   have hE3 : Ext U3 V' := HER.out.trans' hE
   replace k2 := cell_ext hE3 k2
   replace q0 := cell_ext hE3 q0
   replace q1 := cell_ext hE3 q1
   replace q2 := cell_ext hE3 q2
   replace q3 := cell_ext hE3 q3
   replace q4 := cell_ext hE3 q4
   replace q5 := cell_ext hE3 q5
   replace q6 := cell_ext hE3 q6
   replace q7 := cell_ext hE3 q7
   replace a0 := cell_ext hE3 a0
   replace a1 := cell_ext hE3 a1
   replace a2 := cell_ext hE3 a2
   replace a3 := cell_ext hE3 a3
   replace a4 := cell_ext hE3 a4
   replace a5 := cell_ext hE3 a5
   replace c0 := cell_ext hE3 c0
   replace c1 := cell_ext hE3 c1
   replace c2 := cell_ext hE3 c2
   replace c3 := cell_ext hE3 c3
   replace c4 := cell_ext hE3 c4
   replace c5 := cell_ext hE3 c5
   have p0 : V'.cell? ⟨gp, 0, none⟩ = some (.int .i64 p.f) := by rw [cell_of_row _ _ _ _ _ _ rp]; rfl
   have p1 : V'.cell? ⟨gp, 1, none⟩ = some (.int .i64 p.s) := by rw [cell_of_row _ _ _ _ _ _ rp]; rfl
   have p2 : V'.cell? ⟨gp, 2, none⟩ = some (.int .i64 p.u) := by rw [cell_of_row _ _ _ _ _ _ rp]; rfl
   have g0 : V'.cell? ⟨gq, 0, none⟩ = some (.int .i64 q.f) := by rw [cell_of_row _ _ _ _ _ _ rq]; rfl
   have g1 : V'.cell? ⟨gq, 1, none⟩ = some (.int .i64 q.s) := by rw [cell_of_row _ _ _ _ _ _ rq]; rfl
   have g2 : V'.cell? ⟨gq, 2, none⟩ = some (.int .i64 q.u) := by rw [cell_of_row _ _ _ _ _ _ rq]; rfl
   have HUV := Lib.hid (IsRows.ext hE3 HU.out)
   have HAV := Lib.hid (HAQ.out.ext hE3)
   have HWU := Lib.hid (HUY.out.trans' hE3)
   have hpb := (V.out.bet (List.getElem_mem hil)).1
   have hqb := (V.out.bet (List.getElem_mem hjl)).1
   rw [← HP.out] at hpb
   rw [← HQ3.out] at hqb
   have hw : IntKind.i64.wrap (p.u + q.u) = p.u + q.u := IntWalk.i64_in _ (by omega)
   have hQV : Q < V'.heap.size := World.block_lt_of_cell? _ _ q0
   have HRV := Lib.hid (HRY.out.ext hE3)
   clear hE hE3 rp rq d0 d1 d2 e0 e1 e2 r2 rz k0 k1 k3 k4 k5 k6 k7 zk zq zqa zqb hzd2 HER
   by_cases hij : i = j
   ·have f1 : ((i : Int) == (j : Int)) = true := by rw [beq_iff_eq]; omega
    clear hij
    go_wp2_with fail
    refine (worksL_any _).mono ?_
    rintro e W9 ⟨rfl, hE9⟩
    have HE9 := Lib.hid hE9
    clear hE9
    go_wp2_with fail
    go_ret
    exact ⟨rfl, HW.out.trans' (HWU.out.trans' HE9.out)⟩
   have f1 : ((i : Int) == (j : Int)) = false := by rw [beq_eq_false_iff_ne]; omega
   by_cases hf : p.f = q.f
   rotate_left
   ·have f2 : (p.f != q.f) = true := by rw [bne_iff_ne]; exact hf
    clear hf hij
    go_wp2_with fail
    refine (worksL_any _).mono ?_
    rintro e W9 ⟨rfl, hE9⟩
    have HE9 := Lib.hid hE9
    clear hE9
    go_wp2_with fail
    go_ret
    exact ⟨rfl, HW.out.trans' (HWU.out.trans' HE9.out)⟩
   have f2 : (p.f != q.f) = false := by rw [bne_eq_false_iff_eq]; exact hf
   by_cases hs : p.s = q.s
   rotate_left
   ·have f3 : (p.s != q.s) = true := by rw [bne_iff_ne]; exact hs
    clear hf hij hs
    go_wp2_with fail
    refine (worksL_any _).mono ?_
    rintro e W9 ⟨rfl, hE9⟩
    have HE9 := Lib.hid hE9
    clear hE9
    go_wp2_with fail
    go_ret
    exact ⟨rfl, HW.out.trans' (HWU.out.trans' HE9.out)⟩
   have f3 : (p.s != q.s) = false := by rw [bne_eq_false_iff_eq]; exact hs
   by_cases hu : 1000 < p.u + q.u
   ·have HUU := Lib.hid hu
    clear hf hij hs
    go_wp2_with fail
    refine (worksL_any _).mono ?_
    rintro e W9 ⟨rfl, hE9⟩
    have HE9 := Lib.hid hE9
    clear hE9
    go_wp2_with fail
    go_ret
    exact ⟨rfl, HW.out.trans' (HWU.out.trans' HE9.out)⟩
   have HIJ := Lib.hid hij
   have HFE := Lib.hid hf
   have HSE := Lib.hid hs
   clear hf hs hij
   have yf : V'.frozen? ⟨Q, 2, none⟩ = false := HRV.out.fr 2
   have hlq : w.heap.size < Q := hlow
   go_upto_region 18 with (fail)
   clear p0 p1 p2 f1 f2 f3
   obtain ⟨Z, hZ⟩ : ∃ Z, Z = V'.setCell ⟨Q, 2, none⟩ (.slice none 0 0) := ⟨_, rfl⟩
   rw [← hZ]
   have hrz : RowB Z Q #[.int .i64 x.kd, .int .i64 x.n, .slice none 0 0, .slice sa x.scr.length scap, .bool x.fav, .int .i64 x.car, .int .i64 x.duty, .int .i64 x.step] := by rw [hZ]; exact heap_setCell_row HRV.out 2 _
   have hkZ : Kept (fun g => g < V'.heap.size ∧ g ≠ Q) V' Z := by
    rw [hZ]
    exact (Kept.refl _ _).setCell (fun _ h => h.2 rfl) _
   have hIZ : IntK V' Z := intK_row (fun n => by simp) HRV.out hrz (Nat.le_refl _) hkZ
   have hUZ : Ext U Z := by
    rw [hZ]
    exact HWU.out.setCell (by have := HQ.out; simp only; omega) _
   have hzs : V'.heap.size ≤ Z.heap.size := hkZ.size
   have hqQ : qb ≠ Q := fun e => by
    have h1 := HAV.out
    have h2 := HRV.out
    unfold AccAt at h1
    unfold RowB at h2
    rw [e, h2] at h1
    have := Obj.cells.inj (Option.some.inj h1)
    exact absurd this.2.1 (by decide)
   have HAZ : Hid (AccAt Z qb A) := Lib.hid ((hkZ.same _ HAV.out.lt ⟨HAV.out.lt, hqQ⟩).trans HAV.out)
   have HRZ := Lib.hid hrz
   have HIZ := Lib.hid hIZ
   have HUZ := Lib.hid hUZ
   have KK2 := Lib.hid (hkZ.cell k2 ⟨World.block_lt_of_cell? _ _ k2, by simp only; omega⟩)
   have GG2 := Lib.hid (hIZ _ _ g2)
   have HQZ := hrz.lt
   have HA0 := Lib.hid a0
   have HA1 := Lib.hid a1
   have HA2 := Lib.hid a2
   have HA3 := Lib.hid a3
   have HA4 := Lib.hid a4
   have HA5 := Lib.hid a5
   have HC0 := Lib.hid c0
   have HC1 := Lib.hid c1
   have HC2 := Lib.hid c2
   have HC3 := Lib.hid c3
   have HC4 := Lib.hid c4
   have HC5 := Lib.hid c5
   have hzgq : gq < Z.heap.size := World.block_lt_of_cell? _ _ GG2.out
   clear hZ hrz hkZ hIZ hUZ q0 q1 q2 q3 q4 q5 q6 q7 g0 g1 g2 k2 yf a0 a1 a2 a3 a4 a5 c0 c1 c2 c3 c4 c5
   go_wp2_with fail
   go_loopw [26] (fun iv W => ∃ (m : Nat) (sa' : Option Addr) (n' c' : Nat), m ≤ b.bets.length ∧ iv = .int .i64 m ∧ RowB W Q #[.int .i64 x.kd, .int .i64 x.n, (.slice sa' n' c'), .slice sa x.scr.length scap, .bool x.fav, .int .i64 x.car, .int .i64 x.duty, .int .i64 x.step] ∧
     Owns W Z.heap.size 62 3 (.slice sa' n' c') ((joinTo b.bets i j m).map betRow) ∧ Kept (fun g => g < Z.heap.size ∧ g ≠ Q) Z W) (fun iv _ => b.bets.length - (intOf iv).toNat)
   case atStart => exact ⟨0, none, 0, 0, by omega, rfl, HRZ.out, Owns.nil _ _ _ _, Kept.refl _ _⟩
   case round =>
    obtain ⟨m, sa', n', c', hm, rfl, hrow, hown, hkp⟩ := hrel
    have HROW := Lib.hid hrow
    have HOWN := Lib.hid hown
    have HKP := Lib.hid hkp
    have hIW : IntK Z wr := intK_row (fun n => by simp) HRZ.out hrow (Nat.le_refl _) hkp
    have hEw : Ext U wr := HUZ.out.trans (Kept.below (hkp.mono (T := fun g => g < U.heap.size) fun g _ hg => by have := HUZ.out.size; have := HQ.out; omega) HUZ.out.size)
    have k2 := hkp.cell KK2.out ⟨World.block_lt_of_cell? _ _ KK2.out, by simp only; omega⟩
    have g2 := hIW _ _ GG2.out
    have zk := World.block_lt_of_cell? _ _ k2
    have zg := World.block_lt_of_cell? _ _ g2
    simp only at zk zg
    have x2 := hrow.cell 2
    have xf := hrow.fr 2
    have xz := hrow.lt
    simp only [List.getElem?_toArray, List.getElem?_cons_zero, List.getElem?_cons_succ] at x2
    have hzX := hkp.size
    by_cases hlt : m < b.bets.length
    ·have hmi : (m : Int) < (b.bets.length : Int) := by omega
     obtain ⟨_, _, e9, hcm⟩ := bets_cell HSU.out.bets hlt
     cases e9
     obtain ⟨⟨d0, d1, d2⟩, hzd⟩ := hcm wr hEw
     have hzb := (V.out.bet (List.getElem_mem hlt)).1
     have hlen := joinTo_len b.bets i j m
     have hje : joinE b.bets i j m = ⟨b.bets[m].f, b.bets[m].s, if m = i then b.bets[m].u + q.u else b.bets[m].u⟩ := by
      unfold joinE
      rw [betN_get hlt, betN_get hjl, ← HQ3.out]
     obtain ⟨z, hz⟩ : ∃ z, z = b.bets[m] := ⟨_, rfl⟩
     rw [← hz] at d0 d1 d2 hzb hje
     have hwz : IntKind.i64.wrap (z.u + q.u) = z.u + q.u := IntWalk.i64_in _ (by omega)
     have HJE := Lib.hid hje
     have HMYM := Lib.hid hlen
     clear hje hz hcm hrow hown hkp hEw hIW hlen
     by_cases hmI : m = i
     ·have f1 : ((m : Int) == (i : Int)) = true := by rw [beq_iff_eq]; omega
      have f2 : ((m : Int) != (j : Int)) = true := by rw [bne_iff_ne]; have := HIJ.out; omega
      have HT : Hid (joinTo b.bets i j (m + 1) = joinTo b.bets i j m ++ [⟨z.f, z.s, z.u + q.u⟩]) := Lib.hid (by
       have h1 : ¬ m = j := by have := HIJ.out; omega
       rw [joinTo, if_neg h1, HJE.out, if_pos hmI])
      clear hmI
      have HLEN : Hid (((joinTo b.bets i j m).map betRow).length + [[Value.int .i64 z.f, .int .i64 z.s, .int .i64 (z.u + q.u)]].length ≤ 1000000) := Lib.hid (by have := HMYM.out; have := HMY.out; simp; omega)
      go_wp2_with (at_builtin; refine wpOwn rfl (.tmp 188) (.tmp 190) elBet rfl Z.heap.size rfl (HOWN.out.ext (by exact xx)) (wr.heap.size + 1) 0 1 [[.int .i64 z.f, .int .i64 z.s, .int .i64 (z.u + q.u)]] rfl (by simp) (newRowAt _ [.int .i64 z.f, .int .i64 z.s, .int .i64 (z.u + q.u)] _ _ _ (by simp) rfl) (by simp [Value.oneCell']) HLEN.out (by simp; omega) ?_)
      intro v' W4 hown4 hb4
      obtain ⟨va', vn, vc', rfl⟩ := hown4.isSlice
      have hEa : Ext wr ((wr.alloc (.cells #[.int .i64 z.f, .int .i64 z.s, .int .i64 (z.u + q.u)] 62)).alloc (.cells #[.int .i64 z.f, .int .i64 z.s, .int .i64 (z.u + q.u)] 62)) := by exact xx
      have hr4 := (hb4.block Q HQZ).trans (HROW.out.ext hEa)
      have y2 : W4.cell? ⟨Q, 2, none⟩ = some (.slice sa' n' c') := by rw [cell_of_row _ _ _ _ _ _ hr4]; rfl
      have yf : W4.frozen? ⟨Q, 2, none⟩ = false := by simp [World.frozen?, hr4]
      have yz := (Array.getElem?_eq_some_iff.1 hr4).1
      have HR4 := Lib.hid hr4
      have HO4 := Lib.hid hown4
      have HK4 : Hid (Kept (fun g => g < Z.heap.size ∧ g ≠ Q) Z W4) := Lib.hid ((HKP.out.trans ((Kept.of_below hEa).mono fun g hg _ => hg)).trans ⟨hb4.os, hb4.tape, hb4.output, hb4.size, fun g _ hg => hb4.block g hg.1⟩)
      clear hown4 hb4 hr4 hEa x2 xf
      go_wp2_with fail
      go_roundw
      case rel =>
       refine ⟨m + 1, va', vn, vc', by omega, by go_num, heap_setCell_row HR4.out 2 _, ?_, HK4.out.setCell (fun _ h => h.2 rfl) _⟩
       rw [HT.out, List.map_append]
       exact HO4.out.setOther HR4.out (by decide) 2 _
      case measure => simp [intOf]; omega
     ·have f1 : ((m : Int) == (i : Int)) = false := by rw [beq_eq_false_iff_ne]; omega
      by_cases hmJ : m = j
      ·have f2 : ((m : Int) != (j : Int)) = false := by rw [bne_eq_false_iff_eq]; omega
       have HT : Hid (joinTo b.bets i j (m + 1) = joinTo b.bets i j m) := Lib.hid (by rw [joinTo, if_pos hmJ, List.append_nil])
       clear hmI hmJ
       go_wp2_with fail
       go_roundw
       case rel => exact ⟨m + 1, sa', n', c', by omega, by go_num, HROW.out.ext (by exact xx), by rw [HT.out]; exact HOWN.out.ext (by exact xx), HKP.out.trans ((Kept.refl _ wr).alloc _ |>.mono fun _ _ h => h)⟩
       case measure => simp [intOf]; omega
      ·have f2 : ((m : Int) != (j : Int)) = true := by rw [bne_iff_ne]; omega
       have HT : Hid (joinTo b.bets i j (m + 1) = joinTo b.bets i j m ++ [⟨z.f, z.s, z.u⟩]) := Lib.hid (by rw [joinTo, if_neg hmJ, HJE.out, if_neg hmI])
       clear hmI hmJ
       have HLEN : Hid (((joinTo b.bets i j m).map betRow).length + [[Value.int .i64 z.f, .int .i64 z.s, .int .i64 z.u]].length ≤ 1000000) := Lib.hid (by have := HMYM.out; have := HMY.out; simp; omega)
       go_wp2_with (at_builtin; refine wpOwn rfl (.tmp 188) (.tmp 190) elBet rfl Z.heap.size rfl (HOWN.out.ext (by exact xx)) (wr.heap.size + 1) 0 1 [[.int .i64 z.f, .int .i64 z.s, .int .i64 z.u]] rfl (by simp) (newRowAt _ [.int .i64 z.f, .int .i64 z.s, .int .i64 z.u] _ _ _ (by simp) rfl) (by simp [Value.oneCell']) HLEN.out (by simp; omega) ?_)
       intro v' W4 hown4 hb4
       obtain ⟨va', vn, vc', rfl⟩ := hown4.isSlice
       have hEa : Ext wr ((wr.alloc (.cells #[.int .i64 z.f, .int .i64 z.s, .int .i64 z.u] 62)).alloc (.cells #[.int .i64 z.f, .int .i64 z.s, .int .i64 z.u] 62)) := by exact xx
       have hr4 := (hb4.block Q HQZ).trans (HROW.out.ext hEa)
       have y2 : W4.cell? ⟨Q, 2, none⟩ = some (.slice sa' n' c') := by rw [cell_of_row _ _ _ _ _ _ hr4]; rfl
       have yf : W4.frozen? ⟨Q, 2, none⟩ = false := by simp [World.frozen?, hr4]
       have yz := (Array.getElem?_eq_some_iff.1 hr4).1
       have HR4 := Lib.hid hr4
       have HO4 := Lib.hid hown4
       have HK4 : Hid (Kept (fun g => g < Z.heap.size ∧ g ≠ Q) Z W4) := Lib.hid ((HKP.out.trans ((Kept.of_below hEa).mono fun g hg _ => hg)).trans ⟨hb4.os, hb4.tape, hb4.output, hb4.size, fun g _ hg => hb4.block g hg.1⟩)
       clear hown4 hb4 hr4 hEa x2 xf
       go_wp2_with fail
       go_roundw
       case rel =>
        refine ⟨m + 1, va', vn, vc', by omega, by go_num, heap_setCell_row HR4.out 2 _, ?_, HK4.out.setCell (fun _ h => h.2 rfl) _⟩
        rw [HT.out, List.map_append]
        exact HO4.out.setOther HR4.out (by decide) 2 _
       case measure => simp [intOf]; omega
    ·have hmi : ¬ ((m : Int) < (b.bets.length : Int)) := by omega
     go_upto_region 26 with (fail)
     have hme : m = b.bets.length := by omega
     rw [hme] at hown
     have hn' : n' = (joinTo b.bets i j b.bets.length).length := by
      obtain ⟨_, _, e9, -⟩ := hown.form
      have := (Value.slice.inj e9).2.1
      simpa using this
     subst hn'
     obtain ⟨T, rfl⟩ : ∃ T, T = wr := ⟨_, rfl⟩
     have hrz : RowB T Q #[.int .i64 (setB b (joinTo b.bets i j b.bets.length)).kd, .int .i64 (setB b (joinTo b.bets i j b.bets.length)).n, .slice sa' (setB b (joinTo b.bets i j b.bets.length)).bets.length c', .slice sa (setB b (joinTo b.bets i j b.bets.length)).scr.length scap, .bool (setB b (joinTo b.bets i j b.bets.length)).fav, .int .i64 (setB b (joinTo b.bets i j b.bets.length)).car, .int .i64 (setB b (joinTo b.bets i j b.bets.length)).duty, .int .i64 (setB b (joinTo b.bets i j b.bets.length)).step] := by
      have h1 := hrow
      rw [HXX.out] at h1
      exact h1
     have hbz : IsBets T (.slice sa' (joinTo b.bets i j b.bets.length).length c') (joinTo b.bets i j b.bets.length) := hown.isRows
     have hss := join_sum hil hjl HIJ.out (by rw [← HP.out, ← HQ3.out]; exact HFE.out) (by rw [← HP.out, ← HQ3.out]; exact HSE.out)
     have vz := join_val V.out hil hjl (by rw [← HP.out, ← HQ3.out]; omega)
     obtain ⟨z, hz⟩ : ∃ z, z = setB b (joinTo b.bets i j b.bets.length) := ⟨_, rfl⟩
     have hl2 : joinTo b.bets i j b.bets.length = z.bets := by rw [hz]; rfl
     have hall := set_all hss (finsOf ps)
     rw [← hz, ← HD.out, ← HA.out] at hall
     rw [← hz] at hrz vz
     rw [hl2] at hbz
     have HZB : Hid (IsBook T z sa' c' sa scap) := Lib.hid ⟨hbz, by
      have h1 := (HSU.out.ext hEw).scr
      rw [hz]; exact h1⟩
     have HFT := Lib.hid (HFU.out.ext hEw)
     have HUT := Lib.hid hEw
     have hIT : IntK V' T := HIZ.out.trans hIW
     have HDU := Lib.hid (rows_intK hIT HUV.out)
     have HAT : Hid (AccAt T qb A) := Lib.hid ((hkp.same _ HAZ.out.lt ⟨HAZ.out.lt, hqQ⟩).trans HAZ.out)
     have a0 := hIT _ _ HA0.out
     have a1 := hIT _ _ HA1.out
     have a2 := hIT _ _ HA2.out
     have a3 := hIT _ _ HA3.out
     have a4 := hIT _ _ HA4.out
     have a5 := hIT _ _ HA5.out
     have z0 : T.cell? ⟨Q, 0, none⟩ = some (.int .i64 z.kd) := by rw [cell_of_row _ _ _ _ _ _ hrz]; rfl
     have z1 : T.cell? ⟨Q, 1, none⟩ = some (.int .i64 z.n) := by rw [cell_of_row _ _ _ _ _ _ hrz]; rfl
     have z2 : T.cell? ⟨Q, 2, none⟩ = some (.slice sa' z.bets.length c') := by rw [cell_of_row _ _ _ _ _ _ hrz]; rfl
     have z3 : T.cell? ⟨Q, 3, none⟩ = some (.slice sa z.scr.length scap) := by rw [cell_of_row _ _ _ _ _ _ hrz]; rfl
     have z4 : T.cell? ⟨Q, 4, none⟩ = some (.bool z.fav) := by rw [cell_of_row _ _ _ _ _ _ hrz]; rfl
     have z5 : T.cell? ⟨Q, 5, none⟩ = some (.int .i64 z.car) := by rw [cell_of_row _ _ _ _ _ _ hrz]; rfl
     have z6 : T.cell? ⟨Q, 6, none⟩ = some (.int .i64 z.duty) := by rw [cell_of_row _ _ _ _ _ _ hrz]; rfl
     have z7 : T.cell? ⟨Q, 7, none⟩ = some (.int .i64 z.step) := by rw [cell_of_row _ _ _ _ _ _ hrz]; rfl
     have zz := hrz.lt
     have GV := FV.out.re vz (by rw [hz]; rfl)
     have GE := finErr_of (bkErr_of vz) GV
     have t5 := fun w h1 h2 => paidL_any ps (.slice fa ps.length fcap) z sa' sa c' scap w h1 h2 GE
     unfold RetPaid at t5
     rw [hall.1] at t5
     have t6 := fun w h1 h2 => account_any ps (.slice fa ps.length fcap) z sa' sa c' scap w h1 h2
     rw [accE_ok GE, hall.2] at t6
     simp only [accV, accC] at t6
     have T5 := Lib.hid t5
     have T6 := Lib.hid t6
     clear t5 t6 GV GE vz hss hall hl2 hz hbz hrz hown hrow hkp hEw hIW hIT hme x2 xf xz k2 g2 zk zg HROW HOWN HKP





     go_wp2_with fail
     refine callWR (W0 := T) (g := ⟨T, Below.refl _ _⟩) xx (T5.out _ (HZB.out.ext xx) (HFT.out.ext xx)) (fun _ _ h => h.1) fun _ g1 hgr hr => ?_
     obtain ⟨-, u, rfl, hU⟩ := hr
     clear hgr
     obtain ⟨ma, mc, rfl, hy1, hy2, -⟩ := dvd_cells hU
     have HM2 := Lib.hid hU
     clear hU

     go_upto_region 27 with (fail)
     obtain ⟨T2, hT2⟩ : ∃ zz9, zz9 = (grow T g1) := ⟨_, rfl⟩
     have eT2 : Ext T T2 := by rw [hT2]; exact xx
     have eT2c : Ext (grow T g1) T2 := by rw [hT2]; exact xx
     replace z0 := cell_ext eT2 z0
     replace z1 := cell_ext eT2 z1
     replace z2 := cell_ext eT2 z2
     replace z3 := cell_ext eT2 z3
     replace z4 := cell_ext eT2 z4
     replace z5 := cell_ext eT2 z5
     replace z6 := cell_ext eT2 z6
     replace z7 := cell_ext eT2 z7
     replace a0 := cell_ext eT2 a0
     replace a1 := cell_ext eT2 a1
     replace a2 := cell_ext eT2 a2
     replace a3 := cell_ext eT2 a3
     replace a4 := cell_ext eT2 a4
     replace a5 := cell_ext eT2 a5
     replace HZB := Lib.hid (HZB.out.ext eT2)
     replace HFT := Lib.hid (HFT.out.ext eT2)
     replace HDU := Lib.hid (HDU.out.ext eT2)
     replace HAT := Lib.hid (HAT.out.ext eT2)
     replace HM2 := Lib.hid (HM2.out.ext eT2c)
     replace HUT := Lib.hid (HUT.out.trans' eT2)
     rw [← hT2]
     replace zz := World.block_lt_of_cell? _ _ z0
     clear hT2 eT2 eT2c
     go_wp2_with fail
     refine callW (W0 := T2) (g := ⟨T2, Below.refl _ _⟩) xx (T6.out _ (HZB.out.ext xx) (HFT.out.ext xx)) fun g2 hgr => ?_
     clear hgr
     have hcc := HAT.out.ext (by exact xx : Ext T2 (grow T2 g2))
     have HCC := Lib.hid hcc
     have c0 := hcc.c0
     have c1 := hcc.c1
     have c2 := hcc.c2
     have c3 := hcc.c3
     have c4 := hcc.c4
     have c5 := hcc.c5
     have cf := fun o => hcc.fr o
     have cz := hcc.lt
     have hEC := (by exact xx : Ext T2 (grow T2 g2))
     have hlqb := HAV.out.lt
     clear hcc
     go_upto_region 28 with (fail)
     obtain ⟨C, hC⟩ : ∃ C, C = (grow T2 g2) := ⟨_, rfl⟩
     rw [← hC] at HCC hEC c0 c1 c2 c3 c4 c5 cf cz ⊢
     obtain ⟨N, hN⟩ : ∃ N, N = ((((((C.setCell ⟨qb, 0, none⟩ (.int .i64 A.i)).setCell ⟨qb, 1, none⟩ (.int .i64 A.k)).setCell ⟨qb, 2, none⟩ (.int .i64 A.d)).setCell ⟨qb, 3, none⟩ (.int .i64 A.p)).setCell ⟨qb, 4, none⟩ (.int .i64 A.q)).setCell ⟨qb, 5, none⟩ (.int .i64 A.o)) := ⟨_, rfl⟩
     rw [← hN]
     have hIN : IntK C N := by rw [hN]; exact intK_acc HCC.out
     have hI2 : IntK T2 N := (IntK.ext hEC).trans hIN
     have hUN : Ext U N := by
      rw [hN]
      exact (HUT.out.trans' hEC).setCell (by exact hqbU) _ |>.setCell (by exact hqbU) _ |>.setCell (by exact hqbU) _ |>.setCell (by exact hqbU) _ |>.setCell (by exact hqbU) _ |>.setCell (by exact hqbU) _
     replace HDU := Lib.hid (rows_intK hI2 HDU.out)
     replace HM2 := Lib.hid (rows_intK hI2 HM2.out)
     replace a0 := hI2 _ _ a0
     replace a1 := hI2 _ _ a1
     replace a2 := hI2 _ _ a2
     replace a3 := hI2 _ _ a3
     replace a4 := hI2 _ _ a4
     replace a5 := hI2 _ _ a5
     replace c0 := hIN _ _ c0
     replace c1 := hIN _ _ c1
     replace c2 := hIN _ _ c2
     replace c3 := hIN _ _ c3
     replace c4 := hIN _ _ c4
     replace c5 := hIN _ _ c5
     replace HUT := Lib.hid hUN
     have za := World.block_lt_of_cell? _ _ a0
     have zb := World.block_lt_of_cell? _ _ c0
     simp only at za zb
     have t8 := fun w h1 h2 => dvdsL_any D D (.slice ua D.length uc) (.slice ma D.length mc) w h1 h2
     rw [decide_eq_true rfl] at t8
     have T8 := Lib.hid t8
     have qA := fun W => acc_eql A W
     simp only [accV, accC] at qA
     clear t8 z0 z1 z2 z3 z4 z5 z6 z7 zz hC hN hIN hI2 hUN hEC cf cz HCC qN





     go_wp2_with fail
     refine callW (W0 := N) (g := ⟨N, Below.refl _ _⟩) xx (T8.out _ (HDU.out.ext xx) (HM2.out.ext xx)) fun g1 hgr => ?_
     clear hgr
     go_wp2_with fail
     refine (worksL_any _).mono ?_
     rintro e W9 ⟨rfl, hE9⟩
     have HE9 := Lib.hid (HUT.out.trans' ((by exact xx : Ext N (grow N g1)).trans' hE9))
     clear hE9
     go_wp2_with fail
     go_ret
     exact ⟨rfl, HW.out.trans' HE9.out⟩
end Go.Proofs.Ytphajlldghcnnaa
namespace Go.Proofs.Ytphajlldghcnnaa
open Go.RowKit
open Go.ChangeShapes Go.WideShapes Go.ChangeAt in
set_option maxRecDepth 100000 in
theorem poolJoined_lifted (os : Os) (started : os.Started) (H : Type) (enc : TypeId × Value → H) :
  ReturnsInHanded {} Try.checked os 10 .any (Rows.poolJoinedSpec.pre6 enc Try.prog Try.f10 Rows.poolJoinedRow.domain false) (Rows.poolJoinedSpec.post enc Try.prog Try.f10 false true false false) := by
 refine returnsInHanded_of_change (C := Try.checked) own started (by kernel_rfl) Try.func10
  (ChangeSpec.witness6 (enc := enc) (C := Try.checked) false ⟨#[], #[.agg #[.int .i64 0, .int .i64 0, .slice none 0 0, .slice none 0 0, .bool false, .int .i64 0, .int .i64 0, .int .i64 0], .slice none 0 0, .int .u8 0, .int .u8 0, .int .u8 0], []⟩ 8 (by kernel_rfl) (by kernel_rfl) (by kernel_rfl) (by kernel_rfl)) ?_
 intro W base args ds gs before hval0 hW hcnd _
 have hval : ∀ (j : Nat) t v, Try.f10.params[j]? = some t → args[j]? = some v → Value.okWide Try.prog W .any base t v := hval0
 have hW' := hW
 obtain ⟨p, q, hA0, hV, rfl, hfz, hnd⟩ := hW
 have hA : DataW.TrodAll enc Try.prog W 0 (fun _ => true) true Try.f10.params.toList args.toList ds p := hA0
 rw [Try.params10] at hA hval
 obtain ⟨v0, vs0, d0, ds0, p0, q0, hargs, rfl, rfl, h0, r0⟩ := trodAll_cons hA
 obtain ⟨v1, vs1, d1, ds1, p1, q1, rfl, rfl, rfl, h1, r1⟩ := trodAll_cons r0
 obtain ⟨v2, vs2, d2, ds2, p2, q2, rfl, rfl, rfl, h2, r2⟩ := trodAll_cons r1
 obtain ⟨v3, vs3, d3, ds3, p3, q3, rfl, rfl, rfl, h3, r3⟩ := trodAll_cons r2
 obtain ⟨v4, vs4, d4, ds4, p4, q4, rfl, rfl, rfl, h4, r4⟩ := trodAll_cons r3
 obtain ⟨rfl, rfl, rfl⟩ := trodAll_nil r4
 obtain rfl : args = #[v0, v1, v2, v3, v4] := by cases args; simp_all
 obtain ⟨b, ba, bs, bc, bd, rfl, hb⟩ := openBook (hval 0 25 v0 rfl rfl) h0
 obtain ⟨ns, hns, wns⟩ := openNumsK (k := .u8) Try.underlying59 Try.underlying5 (by kernel_rfl) (hval 1 59 v1 rfl rfl) h1
 obtain ⟨i, rfl, rfl, rfl, wi⟩ := open_int Try.underlying5 (hval 2 5 v2 rfl rfl) h2
 obtain ⟨j, rfl, rfl, rfl, wj⟩ := open_int Try.underlying5 (hval 3 5 v3 rfl rfl) h3
 obtain ⟨k, rfl, rfl, rfl, wk⟩ := open_int Try.underlying5 (hval 4 5 v4 rfl rfl) h4
 clear hA0 hval0
 refine (poolJoined_any b ba bs bc bd v1 ns i j k W hb hns wns wi wj wk).mono fun e W' ⟨he, hb⟩ => ?_
 subst he
 exact ⟨_, rfl, law_post laidOut (tb := 4) (hts_of (by kernel_rfl)) (by kernel_rfl) Try.underlying4 hW' rfl rfl hb⟩
theorem poolJoined_holds : Rows.PoolJoinedSaid :=
 OpenClaim.holds_of_wide 10 Try.f10 rfl rfl rfl rfl rfl rfl rfl ⟨rfl, rfl, rfl, rfl, rfl⟩ rfl rfl rfl rfl rfl (by kernel_rfl) Try.func10 (by kernel_rfl)
  (of_decide_eq_true (by kernel_rfl)) (by unfold Func.isWrapper; first | (rw [if_pos (by decide +kernel)]; kernel_rfl) | (rw [if_neg (by decide +kernel)]; exact ⟨rfl, rfl⟩))
  (fun os started H enc _ => poolJoined_lifted os started H enc)
end Go.Proofs.Ytphajlldghcnnaa
