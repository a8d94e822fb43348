/-
 The walks of closed, Account and Dividends.
 The walk of Pay: what is paid for a bet.
 '==' of dividends, bets, accounts, ranges and pairs of numbers.
-/
import Derived.Test.YtphajlldghcnnaaPi
import Derived.Test.YtphajlldghcnnaaPb
namespace Go.Proofs.Ytphajlldghcnnaa
open Go.RowKit Go.Shelf
/-- an account: In, Back, Duty, Paid, Kept, Over -/
structure Acc where
 i : Int
 k : Int
 d : Int
 p : Int
 q : Int
 o : Int
deriving DecidableEq
def netA (b : Bk) : Acc := ⟨inP b, backP b, dutyP b, 0, 0, netP b⟩
def accA (b : Bk) (fs : List (List Int)) : Acc := if divP b fs = [] then netA b else ⟨inP b, backP b, dutyP b, paidP b fs, netP b - paidP b fs, 0⟩
def accC (a : Acc) : Array Value := #[.int .i64 a.i, .int .i64 a.k, .int .i64 a.d, .int .i64 a.p, .int .i64 a.q, .int .i64 a.o]
def accV (a : Acc) : Value := .agg (accC a)
def AccAt (W : World) (g : Nat) (a : Acc) : Prop := W.heap[g]? = some (.cells (accC a) 48 (0, 0))
section
variable {W : World} {g : Nat} {a : Acc} (h : AccAt W g a)
include h
theorem AccAt.c0 : W.cell? ⟨g, 0, none⟩ = some (.int .i64 a.i) := by rw [cell_of_row _ _ _ _ _ _ h]; rfl
theorem AccAt.c1 : W.cell? ⟨g, 1, none⟩ = some (.int .i64 a.k) := by rw [cell_of_row _ _ _ _ _ _ h]; rfl
theorem AccAt.c2 : W.cell? ⟨g, 2, none⟩ = some (.int .i64 a.d) := by rw [cell_of_row _ _ _ _ _ _ h]; rfl
theorem AccAt.c3 : W.cell? ⟨g, 3, none⟩ = some (.int .i64 a.p) := by rw [cell_of_row _ _ _ _ _ _ h]; rfl
theorem AccAt.c4 : W.cell? ⟨g, 4, none⟩ = some (.int .i64 a.q) := by rw [cell_of_row _ _ _ _ _ _ h]; rfl
theorem AccAt.c5 : W.cell? ⟨g, 5, none⟩ = some (.int .i64 a.o) := by rw [cell_of_row _ _ _ _ _ _ h]; rfl
theorem AccAt.fr (o : Nat) : W.frozen? ⟨g, o, none⟩ = false := by
 have h' : W.heap[g]? = _ := h
 simp [World.frozen?, h']
theorem AccAt.lt : g < W.heap.size := World.block_lt_of_cell? _ _ h.c0
theorem AccAt.ext {W' : World} (e : Ext W W') : AccAt W' g a := (e.block _ h.lt).trans h
theorem AccAt.setP (x : Int) : AccAt (W.setCell ⟨g, 3, none⟩ (.int .i64 x)) g { a with p := x } := heap_setCell_row h 3 (.int .i64 x)
theorem AccAt.setQ (x : Int) : AccAt (W.setCell ⟨g, 4, none⟩ (.int .i64 x)) g { a with q := x } := heap_setCell_row h 4 (.int .i64 x)
theorem AccAt.setO (x : Int) : AccAt (W.setCell ⟨g, 5, none⟩ (.int .i64 x)) g { a with o := x } := heap_setCell_row h 5 (.int .i64 x)
end
def paidTo (b : Bk) (l : List Dvd) : Int := (l.map fun d => d.2 * unitsP b d.1).sum
theorem sum_snoc (l : List Int) (x : Int) : (l ++ [x]).sum = l.sum + x := by simp
theorem paidTo_take {b : Bk} {l : List Dvd} {k : Nat} (h : k < l.length) : paidTo b (l.take (k + 1)) = paidTo b (l.take k) + l[k].2 * unitsP b l[k].1 := by
 unfold paidTo
 rw [List.take_add_one, List.getElem?_eq_getElem h, List.map_append]
 simp
theorem pence_le {b : Bk} {fs : List (List Int)} (h : FinV b fs) {s : Spt} (hs : s ∈ backedL b fs) : 0 ≤ penceP b fs s ∧ penceP b fs s ≤ 1100000000 ∧ 0 ≤ penceP b fs s * unitsP b s ∧ penceP b fs s * unitsP b s ≤ shareP b fs ∧ shareP b fs ≤ 11000000 := by
 have hnet := (net_bd h.book).2.2.2.1
 have hin := (net_bd h.book).1
 have hcar := h.book.car
 have hc1 : 1 ≤ ((backedL b fs).length : Int) := by have := List.length_pos_of_mem hs; omega
 have hu := units_bd' h.book s
 have hst := h.book.step
 have hu0 : unitsP b s ≠ 0 := by
  unfold backedL at hs
  simpa using (List.mem_filter.1 hs).2
 have hS0 : 0 ≤ shareP b fs := Int.ediv_nonneg (by omega) (by omega)
 have hS1 : shareP b fs ≤ 11000000 := Int.le_trans (Int.ediv_le_self _ (by omega)) (by omega)
 unfold penceP
 generalize shareP b fs = S at hS0 hS1 ⊢
 generalize unitsP b s = u at hu hu0 ⊢
 generalize b.step = st at hst ⊢
 have hM1 : 1 ≤ u * st := Int.mul_pos (by omega) (by omega)
 have hQ0 : 0 ≤ S / (u * st) := Int.ediv_nonneg hS0 (by omega)
 have hQ1 : S / (u * st) ≤ 11000000 := Int.le_trans (Int.ediv_le_self _ hS0) hS1
 have hP0 : 0 ≤ S / (u * st) * st := Int.mul_nonneg hQ0 (by omega)
 have hP1 : S / (u * st) * st ≤ 11000000 * 100 := Int.mul_le_mul hQ1 hst.2 (by omega) (by omega)
 have e : S / (u * st) * st * u = S / (u * st) * (u * st) := by rw [Int.mul_assoc, Int.mul_comm st u]
 have hE := Int.ediv_mul_le S (show u * st ≠ 0 by omega)
 exact ⟨hP0, by omega, Int.mul_nonneg hP0 (by omega), by rw [e]; exact hE, hS1⟩
theorem paidTo_bd {b : Bk} {fs : List (List Int)} (h : FinV b fs) (k : Nat) : 0 ≤ paidTo b ((divP b fs).take k) ∧ paidTo b ((divP b fs).take k) ≤ 11000000 * (k : Int) := by
 induction k with
 | zero => simp [paidTo]
 | succ k ih =>
  by_cases hk : k < (divP b fs).length
  ·rw [paidTo_take hk]
   have hm : (divP b fs)[k] ∈ divP b fs := List.getElem_mem hk
   unfold divP at hm
   obtain ⟨s, hs, e⟩ := List.mem_map.1 hm
   have := pence_le h hs
   unfold divP at ih ⊢
   rw [← e]
   simp only
   omega
  ·rw [List.take_of_length_le (by omega)]
   rw [List.take_of_length_le (by omega)] at ih
   omega
theorem divP_le {b : Bk} {fs : List (List Int)} (h : FinV b fs) : (divP b fs).length ≤ 64 := by
 unfold divP backedL
 rw [List.length_map]
 exact Nat.le_trans (List.length_filter_le _ _) (winsP_le h)
theorem divs_spec {w : World} {v : Value} {l : List Dvd} (h : IsRows w 3 v (l.map divRow)) :
  ∃ sa cap, v = .slice sa l.length cap ∧ l.length ≤ cap ∧ cap ≤ 9223372036854775807 ∧ (l = [] ∨ ∃ b off, sa = some ⟨b, off, none⟩ ∧ ∀ i, (h : i < l.length) →
   w.cell? ⟨b, off + i * 3, none⟩ = some (.int .i64 l[i].1.1) ∧ w.cell? ⟨b, off + i * 3 + 1, none⟩ = some (.int .i64 l[i].1.2) ∧ w.cell? ⟨b, off + i * 3 + 2, none⟩ = some (.int .i64 l[i].2)) := by
 obtain ⟨sa, cap, h1, h2, h3, h4⟩ := h
 refine ⟨sa, cap, by simpa using h1, by simpa using h2, h3, ?_⟩
 rcases h4 with h4 | ⟨b, off, e, h4⟩
 ·exact .inl (by simpa using h4)
 ·refine .inr ⟨b, off, e, fun i hi => ?_⟩
  have c0 := h4 i (by simpa using hi) 0 (by simp [divRow])
  have c1 := h4 i (by simpa using hi) 1 (by simp [divRow])
  have c2 := h4 i (by simpa using hi) 2 (by simp [divRow])
  simp [divRow] at c0 c1 c2
  exact ⟨c0, c1, c2⟩
set_option maxRecDepth 100000 in
set_option maxHeartbeats 4000000 in
theorem closed_any (p m : Nat) (b : Bk) (ba sa fa : Option Addr) (bcap scap fcap : Nat) (ps : List (Value × List Int)) (w : World) (ht : IsTill w p m b ba bcap sa scap) (hf : IsFin w (.slice fa ps.length fcap) ps) (hfv : FinV b (finsOf ps)) :
  Calls Try.prog 72 #[.pointer (some ⟨p, 0, none⟩), .slice fa ps.length fcap] w fun e w' => e = .returned (accV (accA b (finsOf ps))) ∧ Ext w w' := by
 have HT := Lib.hid ht
 have HF := Lib.hid hf
 have FV := Lib.hid hfv
 have t10 := ht.till.c10
 have t11 := ht.till.c11
 have t12 := ht.till.c12
 have t13 := ht.till.c13
 have t14 := ht.till.c14
 have t15 := ht.till.c15
 have hzp := ht.till.lt
 clear ht hf hfv
 obtain ⟨I, hI⟩ : ∃ I, I = inP b := ⟨_, rfl⟩
 obtain ⟨K, hK⟩ : ∃ K, K = backP b := ⟨_, rfl⟩
 obtain ⟨D, hD⟩ : ∃ D, D = dutyP b := ⟨_, rfl⟩
 obtain ⟨N, hN⟩ : ∃ N, N = netP b := ⟨_, rfl⟩
 rw [← hI] at t10
 rw [← hK] at t11
 rw [← hD] at t12
 rw [← hN] at t15
 have HA : Hid (netA b = ⟨I, K, D, 0, 0, N⟩) := Lib.hid (by unfold netA; rw [hI, hK, hD, hN])
 have HA2 : Hid (accA b (finsOf ps) = if divP b (finsOf ps) = [] then ⟨I, K, D, 0, 0, N⟩ else ⟨I, K, D, paidP b (finsOf ps), N - paidP b (finsOf ps), 0⟩) := Lib.hid (by unfold accA netA; rw [hI, hK, hD, hN])
 have hN1 : 0 ≤ N ∧ N ≤ 11000000 := by
  have h1 := (net_bd FV.out.book).2.2.2.1
  have h2 := (net_bd FV.out.book).1
  have h3 := FV.out.book.car
  omega
 have HNN := Lib.hid hN
 clear hI hK hD hN
 go_enter Try.func72, Try.ntmps72
 go_wp2_with fail
 refine (dividends_any p m b ba sa fa bcap scap fcap ps _ (HT.out.ext (by exact xx)) (HF.out.ext (by exact xx)) FV.out).mono ?_
 rintro e W1 ⟨v, rfl, hE1, hrows, hnew⟩
 obtain ⟨la, lc, rfl, hl1, hl2, -⟩ := divs_spec hrows
 simp only [World.size_alloc] at hnew
 have hA1 : AccAt W1 (w.heap.size + 1) ⟨I, K, D, 0, 0, N⟩ := by
  refine (hE1.block _ (by simp)).trans ?_
  have := World.alloc_heap_new (w.alloc (.cells #[.int .i64 0, .int .i64 0, .int .i64 0, .int .i64 0, .int .i64 0, .int .i64 0] 48)) (.cells #[.int .i64 I, .int .i64 K, .int .i64 D, .int .i64 0, .int .i64 0, .int .i64 N] 48)
  rwa [World.size_alloc] at this
 have hE : Ext w W1 := Ext.trans' (by exact xx) hE1
 have hr4 : W1.cell? ⟨w.heap.size, 0, none⟩ = some (.int .i64 0) ∧ W1.cell? ⟨w.heap.size, 1, none⟩ = some (.int .i64 0) := ⟨cell_ext hE1 (by simp [go_sem]), cell_ext hE1 (by simp [go_sem])⟩
 have hA0 : AccAt W1 w.heap.size ⟨0, 0, 0, 0, 0, 0⟩ := by
  refine (hE1.block _ (by simp; omega)).trans ?_
  exact (Below.heap_alloc _ _ _ (by simp)).trans (World.alloc_heap_new w _)
 have HE := Lib.hid hE
 have HA0 := Lib.hid hA0
 have HA1 := Lib.hid hA1
 have HR := Lib.hid hrows
 have HNEW := Lib.hid hnew
 have hz1 := hE1.size
 simp only [World.size_alloc] at hz1
 obtain ⟨L, hL⟩ : ∃ L, L = divP b (finsOf ps) := ⟨_, rfl⟩
 rw [← hL] at hl1 HR ⊢
 have HL := Lib.hid hL
 clear hnew hE1 hrows hA1 hE hA0 hL t10 t11 t12 t13 t14 t15 hr4
 by_cases h0 : L = []
 ·subst h0
  have hA1 := HA1.out
  have hA0 := HA0.out
  have c0a := (hA1).c0
  have c1a := (hA1).c1
  have c2a := (hA1).c2
  have c3a := (hA1).c3
  have c4a := (hA1).c4
  have c5a := (hA1).c5
  have cfa := fun o => (hA1).fr o
  have cza := (hA1).lt
  simp only at c0a c1a c2a c3a c4a c5a
  have c0r := (hA0).c0
  have c1r := (hA0).c1
  have c2r := (hA0).c2
  have c3r := (hA0).c3
  have c4r := (hA0).c4
  have c5r := (hA0).c5
  have cfr := fun o => (hA0).fr o
  have czr := (hA0).lt
  simp only at c0r c1r c2r c3r c4r c5r
  clear hA1 hA0
  go_wp2_with fail
  refine bodyPost_ret (v := accV ⟨I, K, D, 0, 0, N⟩) (by simp [results, Try.results72, go_sem, accV, accC, c0r, c1r, c2r, c3r, c4r, c5r]) rfl ?_
  have hA2 := HA2.out
  rw [if_pos HL.out.symm] at hA2
  rw [hA2]
  exact ⟨rfl, ((((((HE.out.setCell (Nat.le_refl _) _).setCell (Nat.le_refl _) _).setCell (Nat.le_refl _) _).setCell (Nat.le_refl _) _).setCell (Nat.le_refl _) _).setCell (Nat.le_refl _) _)⟩
 have hne : ¬ (L.length = 0) := fun h => h0 (List.eq_nil_of_length_eq_zero h)
 have f1 : ((L.length : Int) == 0) = false := by rw [beq_eq_false_iff_ne]; omega
 have f2 : ¬ ((L.length : Int) = 0) := by omega
 have HL0 := Lib.hid h0
 clear h0
 go_wp2_with fail
 obtain ⟨ab, hab⟩ : ∃ ab, ab = w.heap.size + 1 := ⟨_, rfl⟩
 rw [← hab] at HA1 ⊢
 have hab1 : w.heap.size < ab := by omega
 have hab2 : ab < w.heap.size + 1 + 1 := by omega
 clear hab
 go_loopw [22] (fun iv W => ∃ k : Nat, k ≤ L.length ∧ iv = .int .i64 k ∧ AccAt W ab ⟨I, K, D, paidTo b (L.take k), 0, N⟩ ∧ Kept (fun j => j ≠ ab) W1 W) (fun iv _ => L.length - (intOf iv).toNat)
 case atStart => exact ⟨0, by omega, rfl, by simpa [paidTo] using HA1.out, Kept.refl _ _⟩
 case round =>
  obtain ⟨k, hk, rfl, hacc, hkp⟩ := hrel
  have hEw : Ext w wr := HE.out.trans (Kept.below (hkp.mono (T := fun j => j < w.heap.size) fun j _ h => by omega) HE.out.size)
  have HACC := Lib.hid hacc
  have HKP := Lib.hid hkp
  have HEW := Lib.hid hEw
  by_cases hlt : k < L.length
  ·have hki : (k : Int) < (L.length : Int) := by omega
   obtain ⟨_, _, e, -, -, hcc⟩ := divs_spec HR.out
   cases e
   rcases hcc with hcc | ⟨lb, lo, rfl, hcc⟩
   ·exact absurd hcc HL0.out
   obtain ⟨e0, e1, e2⟩ := hcc k hlt
   have hlb : ab < lb := by have := HNEW.out lb rfl; omega
   have d0 := hkp.cell e0 (by simp only; omega)
   have d1 := hkp.cell e1 (by simp only; omega)
   have d2 := hkp.cell e2 (by simp only; omega)
   obtain ⟨x0, hx0⟩ : ∃ x, x = L[k].1.1 := ⟨_, rfl⟩
   obtain ⟨x1, hx1⟩ : ∃ x, x = L[k].1.2 := ⟨_, rfl⟩
   obtain ⟨x2, hx2⟩ : ∃ x, x = L[k].2 := ⟨_, rfl⟩
   rw [← hx0] at d0
   rw [← hx1] at d1
   rw [← hx2] at d2
   have hzl := World.block_lt_of_cell? _ _ d0
   simp only at hzl
   have hpt := paidTo_take (b := b) hlt
   have hxs : L[k].1 = (x0, x1) := by rw [hx0, hx1]
   rw [hxs, ← hx2] at hpt
   obtain ⟨u, hu⟩ : ∃ u, u = unitsP b (x0, x1) := ⟨_, rfl⟩
   rw [← hu] at hpt
   have hb0 := paidTo_bd FV.out k
   have hb1 := paidTo_bd FV.out (k + 1)
   rw [← HL.out] at hb0 hb1
   have h64 := divP_le FV.out
   rw [← HL.out] at h64
   have hm : L[k] ∈ divP b (finsOf ps) := by rw [← HL.out]; exact List.getElem_mem hlt
   have hpu : 0 ≤ x2 * u ∧ x2 * u ≤ 11000000 := by
    unfold divP at hm
    obtain ⟨s, hs, e⟩ := List.mem_map.1 hm
    have h1 := pence_le FV.out hs
    rw [← e] at hxs hx2
    simp only at hxs hx2
    subst hxs
    rw [hx2, hu]
    omega
   obtain ⟨A, hA⟩ : ∃ A, A = x2 * u := ⟨_, rfl⟩
   rw [← hA] at hpu hpt
   obtain ⟨P0, hP0⟩ : ∃ P0, P0 = paidTo b (L.take k) := ⟨_, rfl⟩
   rw [← hP0] at hb0 hpt hacc HACC
   rw [hpt] at hb1
   have hw1 : IntKind.i64.wrap (x2 * u) = A := by rw [← hA]; exact IntWalk.i64_in _ (by omega)
   have hw2 : IntKind.i64.wrap (P0 + A) = P0 + A := IntWalk.i64_in _ (by omega)
   have ht := HT.out.ext hEw
   have c9 := ht.till.c9
   have HTm := Lib.hid ht
   have HPT := Lib.hid hpt
   have HU := Lib.hid hu
   clear hcc e0 e1 e2 hpt hm hA hP0 hu hxs hx0 hx1 hx2 hkp hEw ht hb0 hb1
   go_upto_region 8 with (fail)
   obtain ⟨Z, hZ⟩ : ∃ Z, Z = wr.alloc (.cells #[.int .i64 x0, .int .i64 x1, .int .i64 x2] 73) := ⟨_, rfl⟩
   have hEZ : Ext wr Z := by rw [hZ]; exact xx
   have z0 : Z.cell? ⟨wr.heap.size, 0, none⟩ = some (.int .i64 x0) := by rw [hZ]; simp [go_sem]
   have z1 : Z.cell? ⟨wr.heap.size, 1, none⟩ = some (.int .i64 x1) := by rw [hZ]; simp [go_sem]
   have z2 : Z.cell? ⟨wr.heap.size, 2, none⟩ = some (.int .i64 x2) := by rw [hZ]; simp [go_sem]
   have hzZ : wr.heap.size < Z.heap.size := by rw [hZ]; simp
   rw [← hZ]
   have hAZ := hacc.ext hEZ
   have a3 : Z.cell? ⟨ab, 3, none⟩ = some (.int .i64 P0) := hAZ.c3
   have m9 := cell_ext hEZ c9
   have haz := hAZ.lt
   have hpz : p < Z.heap.size := World.block_lt_of_cell? _ _ m9
   have HEZ := Lib.hid hEZ
   have HAZ := Lib.hid hAZ
   have HTZ := Lib.hid (HTm.out.ext hEZ)
   clear hZ hEZ hAZ hacc c9 d0 d1 d2
   refine wp_region_rove_tail rfl rfl (by kernel_rfl) (Z.heap.size) (Nat.le_refl _)
    [sqV (.pointer (some ⟨ab, 3, none⟩)), sqV (.int .i64 P0), sqV (.pointer (some ⟨wr.heap.size, 2, none⟩)), sqV (.int .i64 x2), sqV (.pointer (some ⟨p, 0, none⟩)), sqV (.pointer (some ⟨p, 0, none⟩)), sqV (.pointer (some ⟨p, 9, none⟩)), sqV (.map (some m)), sqV (.pointer (some ⟨wr.heap.size, 0, none⟩)), sqV (.int .i64 x0), sqV (.pointer (some ⟨wr.heap.size, 1, none⟩)), sqV (.int .i64 x1), sqV (.agg #[.int .i64 x0, .int .i64 x1]), sqV (.int .i64 u), sqV (.int .i64 A), sqV (.int .i64 (P0 + A)), sqV (.pointer (some ⟨ab, 3, none⟩))]
    [true, true, true, true, true, true, true, true, true, true, true, true, true, true, true, true, true] [false, false, false, false, false, false, false, false, false, false, false, false, false, false, false, false, false] [true, true, true, true, true, true, true, true, true, true, true, true, true, true, true, true, true] [true, true, true, true, true, true, true, true, true, true, true, true, true, true, true, true, true]
    (by kernel_rfl) (by kernel_rfl) (by decide +kernel) (by decide +kernel) (by decide +kernel) rfl ⟨rfl, rfl⟩ ⟨?s0, ?s1, ?s2, ?s3, ?s4, ?s5, ?s6, ?s7, ?s8, ?s9, ?s10, ?s11, ?s12, ?s13, ?s14, ?s15, ?s16, trivial⟩ [some 26, some 27, some 28, some 29, some 30, some 31, some 32, some 33, some 34, some 35, some 36, some 37, some 38, some 39, some 40, some 41, some 42] rfl rfl ?send
   case s0 =>
    intro val ρ W hE hz hd hA hx
    have o0 : ρ (.tmp 5) = .pointer (some ⟨ab, 0, none⟩) := hA.old 5 (by decide)
    clear hd
    exact runq_val (W' := W) (by simp [execOp, o0, go_sem]) (Below.refl _ _) rfl
   case s1 =>
    intro val ρ W hE hz hd hA hx
    have d0 : ρ (.tmp 26) = .pointer (some ⟨ab, 3, none⟩) := (hA.dep 0 (by decide) 26 rfl).trans (hd 0 (by decide))
    have f_a3 := cell_below hE (by simp only; omega) a3
    clear hd
    exact runq_val (W' := W) (by simp [execOp, d0, f_a3, go_sem]) (Below.refl _ _) rfl
   case s2 =>
    intro val ρ W hE hz hd hA hx
    have o0 : ρ (.tmp 8) = .pointer (some ⟨wr.heap.size, 0, none⟩) := hA.old 8 (by decide)
    clear hd
    exact runq_val (W' := W) (by simp [execOp, o0, go_sem]) (Below.refl _ _) rfl
   case s3 =>
    intro val ρ W hE hz hd hA hx
    have d2 : ρ (.tmp 28) = .pointer (some ⟨wr.heap.size, 2, none⟩) := (hA.dep 2 (by decide) 28 rfl).trans (hd 2 (by decide))
    have f_z2 := cell_below hE (by simp only; omega) z2
    clear hd
    exact runq_val (W' := W) (by simp [execOp, d2, f_z2, go_sem]) (Below.refl _ _) rfl
   case s4 =>
    intro val ρ W hE hz hd hA hx
    have o0 : ρ (.tmp 0) = .pointer (some ⟨p, 0, none⟩) := hA.old 0 (by decide)
    clear hd
    exact runq_val (W' := W) (by simp [execOp, o0, go_sem]) (Below.refl _ _) rfl
   case s5 =>
    intro val ρ W hE hz hd hA hx
    have d4 : ρ (.tmp 30) = .pointer (some ⟨p, 0, none⟩) := (hA.dep 4 (by decide) 30 rfl).trans (hd 4 (by decide))
    clear hd
    exact runq_val (W' := W) (by simp [execOp, d4, go_sem]) (Below.refl _ _) rfl
   case s6 =>
    intro val ρ W hE hz hd hA hx
    have d5 : ρ (.tmp 31) = .pointer (some ⟨p, 0, none⟩) := (hA.dep 5 (by decide) 31 rfl).trans (hd 5 (by decide))
    clear hd
    exact runq_val (W' := W) (by simp [execOp, d5, go_sem]) (Below.refl _ _) rfl
   case s7 =>
    intro val ρ W hE hz hd hA hx
    have d6 : ρ (.tmp 32) = .pointer (some ⟨p, 9, none⟩) := (hA.dep 6 (by decide) 32 rfl).trans (hd 6 (by decide))
    have f_m9 := cell_below hE (by simp only; omega) m9
    clear hd
    exact runq_val (W' := W) (by simp [execOp, d6, f_m9, go_sem]) (Below.refl _ _) rfl
   case s8 =>
    intro val ρ W hE hz hd hA hx
    have o0 : ρ (.tmp 8) = .pointer (some ⟨wr.heap.size, 0, none⟩) := hA.old 8 (by decide)
    clear hd
    exact runq_val (W' := W) (by simp [execOp, o0, go_sem]) (Below.refl _ _) rfl
   case s9 =>
    intro val ρ W hE hz hd hA hx
    have d8 : ρ (.tmp 34) = .pointer (some ⟨wr.heap.size, 0, none⟩) := (hA.dep 8 (by decide) 34 rfl).trans (hd 8 (by decide))
    have f_z0 := cell_below hE (by simp only; omega) z0
    clear hd
    exact runq_val (W' := W) (by simp [execOp, d8, f_z0, go_sem]) (Below.refl _ _) rfl
   case s10 =>
    intro val ρ W hE hz hd hA hx
    have o0 : ρ (.tmp 8) = .pointer (some ⟨wr.heap.size, 0, none⟩) := hA.old 8 (by decide)
    clear hd
    exact runq_val (W' := W) (by simp [execOp, o0, go_sem]) (Below.refl _ _) rfl
   case s11 =>
    intro val ρ W hE hz hd hA hx
    have d10 : ρ (.tmp 36) = .pointer (some ⟨wr.heap.size, 1, none⟩) := (hA.dep 10 (by decide) 36 rfl).trans (hd 10 (by decide))
    have f_z1 := cell_below hE (by simp only; omega) z1
    clear hd
    exact runq_val (W' := W) (by simp [execOp, d10, f_z1, go_sem]) (Below.refl _ _) rfl
   case s12 =>
    intro val ρ W hE hz hd hA hx
    have d9 : ρ (.tmp 35) = .int .i64 x0 := (hA.dep 9 (by decide) 35 rfl).trans (hd 9 (by decide))
    have d11 : ρ (.tmp 37) = .int .i64 x1 := (hA.dep 11 (by decide) 37 rfl).trans (hd 11 (by decide))
    clear hd
    exact runq_val (W' := W) (by simp [execOp, d9, d11, go_sem]) (Below.refl _ _) rfl
   case s14 =>
    intro val ρ W hE hz hd hA hx
    have d3 : ρ (.tmp 29) = .int .i64 x2 := (hA.dep 3 (by decide) 29 rfl).trans (hd 3 (by decide))
    have d13 : ρ (.tmp 39) = .int .i64 u := (hA.dep 13 (by decide) 39 rfl).trans (hd 13 (by decide))
    clear hd
    exact runq_val (W' := W) (by simp [execOp, d3, d13, hw1, go_sem]) (Below.refl _ _) rfl
   case s15 =>
    intro val ρ W hE hz hd hA hx
    have d1 : ρ (.tmp 27) = .int .i64 P0 := (hA.dep 1 (by decide) 27 rfl).trans (hd 1 (by decide))
    have d14 : ρ (.tmp 40) = .int .i64 A := (hA.dep 14 (by decide) 40 rfl).trans (hd 14 (by decide))
    clear hd
    exact runq_val (W' := W) (by simp [execOp, d1, d14, hw2, go_sem]) (Below.refl _ _) rfl
   case s16 =>
    intro val ρ W hE hz hd hA hx
    have o0 : ρ (.tmp 5) = .pointer (some ⟨ab, 0, none⟩) := hA.old 5 (by decide)
    clear hd
    exact runq_val (W' := W) (by simp [execOp, o0, go_sem]) (Below.refl _ _) rfl
   case s13 =>
    intro val ρ W hE hz hd hA hx
    have d7 : ρ (.tmp 33) = .map (some m) := (hA.dep 7 (by decide) 33 rfl).trans (hd 7 (by decide))
    have d12 : ρ (.tmp 38) = .agg #[.int .i64 x0, .int .i64 x1] := (hA.dep 12 (by decide) 38 rfl).trans (hd 12 (by decide))
    have hl := units_look (HTZ.out.ext (hx (by decide))).map (x0, x1)
    simp only [skey] at hl
    rw [show sumB (unitsG b (x0, x1)) b.bets = u from HU.out.symm] at hl
    exact runq_val (W' := W) (by simp [execOp, d7, d12, hl, go_sem]) (Below.refl _ _) rfl
   case send =>
    intro val WW hE hzz hv
    obtain ⟨-, -, -, -, -, -, -, -, -, -, -, -, -, -, -, r15, r16, -⟩ := hv
    have q15 : val 15 = .int .i64 (P0 + A) := r15
    have q16 : val 16 = .pointer (some ⟨ab, 3, none⟩) := r16
    have hAW := HAZ.out.ext hE
    have v3 : WW.cell? ⟨ab, 3, none⟩ = some (.int .i64 P0) := hAW.c3
    have vf := hAW.fr 3
    have hk2 : Kept (fun j => j ≠ ab) W1 (WW.setCell ⟨ab, 3, none⟩ (.int .i64 (P0 + A))) := (HKP.out.trans (Kept.of_below (HEZ.out.trans' hE))).setCell (fun _ h => h rfl) _
    have HAN := Lib.hid (hAW.setP (P0 + A))
    have HKN := Lib.hid hk2
    simp only [putD, q15, q16]
    go_frame
    clear r15 r16 q15 q16 hAW hk2 hE hzz a3 z0 z1 z2 m9
    go_wp2_with fail
    go_roundw
    case rel => exact ⟨k + 1, by omega, by go_num, by rw [HPT.out]; exact HAN.out, HKN.out⟩
    case measure => simp [intOf]; omega
  ·have hki : ¬ ((k : Int) < (L.length : Int)) := by omega
   have hke : k = L.length := by omega
   rw [hke, List.take_length] at hacc
   have h64 := divP_le FV.out
   have hb := paidTo_bd FV.out L.length
   rw [← HL.out] at h64 hb
   rw [List.take_length] at hb
   obtain ⟨P0, hP0⟩ : ∃ P0, P0 = paidTo b L := ⟨_, rfl⟩
   rw [← hP0] at hacc hb
   have hA0 : AccAt wr w.heap.size ⟨0, 0, 0, 0, 0, 0⟩ := (hkp.same _ HA0.out.lt (by omega)).trans HA0.out
   have hw1 : IntKind.i64.wrap (N - P0) = N - P0 := IntWalk.i64_in _ (by omega)
   have c0a := (hacc).c0
   have c1a := (hacc).c1
   have c2a := (hacc).c2
   have c3a := (hacc).c3
   have c4a := (hacc).c4
   have c5a := (hacc).c5
   have cfa := fun o => (hacc).fr o
   have cza := (hacc).lt
   simp only at c0a c1a c2a c3a c4a c5a
   have c0r := (hA0).c0
   have c1r := (hA0).c1
   have c2r := (hA0).c2
   have c3r := (hA0).c3
   have c4r := (hA0).c4
   have c5r := (hA0).c5
   have cfr := fun o => (hA0).fr o
   have czr := (hA0).lt
   simp only at c0r c1r c2r c3r c4r c5r
   have HP0 := Lib.hid hP0
   clear hke hacc hA0 hkp hEw hP0 hb
   go_wp2_with fail
   refine bodyPost_ret (v := accV ⟨I, K, D, P0, N - P0, 0⟩) (by simp [results, Try.results72, go_sem, accV, accC, c0r, c1r, c2r, c3r, c4r, c5r]) rfl ?_
   have hA2 := HA2.out
   rw [if_neg (fun h => HL0.out (HL.out.trans h)), show paidP b (finsOf ps) = P0 by rw [HP0.out, HL.out]; rfl] at hA2
   rw [hA2]
   exact ⟨rfl, ((((((((HEW.out.setCell (Nat.le_of_lt hab1) _).setCell (Nat.le_of_lt hab1) _).setCell (Nat.le_refl _) _).setCell (Nat.le_refl _) _).setCell (Nat.le_refl _) _).setCell (Nat.le_refl _) _).setCell (Nat.le_refl _) _).setCell (Nat.le_refl _) _)⟩
theorem ext_set6 {w W : World} (h : Ext w W) {g : Nat} (hg : w.heap.size ≤ g) (a b c d e f : Value) : Ext w ((((((W.setCell ⟨g, 0, none⟩ a).setCell ⟨g, 1, none⟩ b).setCell ⟨g, 2, none⟩ c).setCell ⟨g, 3, none⟩ d).setCell ⟨g, 4, none⟩ e).setCell ⟨g, 5, none⟩ f) :=
 (((((h.setCell hg _).setCell hg _).setCell hg _).setCell hg _).setCell hg _).setCell hg _
/-- what Account returns -/
def accE (b : Bk) (fs : List (List Int)) : Value := .tuple #[accV (if finErr b fs = 0 then accA b fs else ⟨0, 0, 0, 0, 0, 0⟩), .int .i64 (finErr b fs)]
theorem accE_err {b : Bk} {fs : List (List Int)} {er : Int} (h : er = finErr b fs) (hne : er ≠ 0) : accE b fs = .tuple #[accV ⟨0, 0, 0, 0, 0, 0⟩, .int .i64 er] := by
 unfold accE; rw [← h, if_neg hne]
theorem accE_ok {b : Bk} {fs : List (List Int)} (h : finErr b fs = 0) : accE b fs = .tuple #[accV (accA b fs), .int .i64 0] := by
 unfold accE; rw [h, if_pos rfl]
set_option maxRecDepth 100000 in
set_option maxHeartbeats 1000000 in
theorem account_any (ps : List (Value × List Int)) (fv : Value) (b : Bk) (ba sa : Option Addr) (bcap scap : Nat) (w : World) (hv : IsBook w b ba bcap sa scap) (hf : IsFin w fv ps) :
  Calls Try.prog 34 #[.agg #[.int .i64 b.kd, .int .i64 b.n, .slice ba b.bets.length bcap, .slice sa b.scr.length scap, .bool b.fav, .int .i64 b.car, .int .i64 b.duty, .int .i64 b.step], fv] w fun e w' => e = .returned (accE b (finsOf ps)) ∧ Ext w w' := by
 obtain ⟨fa, fcap, rfl, hf1, hf2, -⟩ := hf.spec
 have HF0 := Lib.hid hf
 have HV := Lib.hid hv
 clear hf hv
 go_enter Try.func34, Try.ntmps34
 go_wp2_with fail
 refine (finished_any ps _ b ba sa bcap scap _ (HV.out.ext (by exact xx)) (HF0.out.ext (by exact xx))).mono ?_
 have hA0 : AccAt ((w.alloc (.cells #[.int .i64 b.kd, .int .i64 b.n, .slice ba b.bets.length bcap, .slice sa b.scr.length scap, .bool b.fav, .int .i64 b.car, .int .i64 b.duty, .int .i64 b.step] 25)).alloc (.cells #[.int .i64 0, .int .i64 0, .int .i64 0, .int .i64 0, .int .i64 0, .int .i64 0] 48)) (w.heap.size + 1) ⟨0, 0, 0, 0, 0, 0⟩ := by
  have := World.alloc_heap_new (w.alloc (.cells #[.int .i64 b.kd, .int .i64 b.n, .slice ba b.bets.length bcap, .slice sa b.scr.length scap, .bool b.fav, .int .i64 b.car, .int .i64 b.duty, .int .i64 b.step] 25)) (.cells #[.int .i64 0, .int .i64 0, .int .i64 0, .int .i64 0, .int .i64 0, .int .i64 0] 48)
  rwa [World.size_alloc] at this
 rintro e W1 ⟨hE1, ⟨hne, rfl⟩ | ⟨h0, p, m, rfl, hp, hT⟩⟩
 ·obtain ⟨er, her⟩ : ∃ er, er = finErr b (finsOf ps) := ⟨_, rfl⟩
  rw [← her] at hne ⊢
  have f1 : (er != 0) = true := by simpa using hne
  have HE1 := Lib.hid (Ext.trans' (by exact xx) hE1 : Ext w W1)
  have HER := Lib.hid her
  have HNE := Lib.hid hne
  have hA1 := hA0.ext hE1
  have c0r := (hA1).c0
  have c1r := (hA1).c1
  have c2r := (hA1).c2
  have c3r := (hA1).c3
  have c4r := (hA1).c4
  have c5r := (hA1).c5
  have cfr := fun o => (hA1).fr o
  have czr := (hA1).lt
  simp only at c0r c1r c2r c3r c4r c5r
  clear her hne hE1 hA0 hA1
  go_wp2_with fail
  refine bodyPost_ret (v := .tuple #[accV ⟨0, 0, 0, 0, 0, 0⟩, .int .i64 er]) (by simp [results, Try.results34, go_sem, accV, accC, c0r, c1r, c2r, c3r, c4r, c5r]) rfl ?_
  refine ⟨congrArg _ (accE_err HER.out HNE.out).symm, ?_⟩
  exact ext_set6 HE1.out (Nat.le_succ _) _ _ _ _ _ _
 ·have HE1 := Lib.hid (Ext.trans' (by exact xx) hE1 : Ext w W1)
  have H0 := Lib.hid h0
  have HT1 := Lib.hid hT
  have HF1 := Lib.hid (HF0.out.ext HE1.out)
  have HA1 := Lib.hid (hA0.ext hE1)
  clear hE1 h0 hT hA0 HF0 HV
  go_wp2_with fail
  refine (closed_any p m b ba sa fa bcap scap fcap ps _ HT1.out HF1.out (finV_of H0.out)).mono ?_
  rintro e W2 ⟨rfl, hE2⟩
  obtain ⟨A, hA⟩ : ∃ A, A = accA b (finsOf ps) := ⟨_, rfl⟩
  rw [← hA]
  have HA := Lib.hid hA
  have hA1 := HA1.out.ext hE2
  have c0r := (hA1).c0
  have c1r := (hA1).c1
  have c2r := (hA1).c2
  have c3r := (hA1).c3
  have c4r := (hA1).c4
  have c5r := (hA1).c5
  have cfr := fun o => (hA1).fr o
  have czr := (hA1).lt
  simp only at c0r c1r c2r c3r c4r c5r
  have HE2 := Lib.hid (HE1.out.trans' hE2)
  simp only [accV, accC]
  clear hA hA1 hE2
  go_wp2_with fail
  refine bodyPost_ret (v := .tuple #[accV A, .int .i64 0]) (by simp [results, Try.results34, go_sem, accV, accC, c0r, c1r, c2r, c3r, c4r, c5r]) rfl ?_
  refine ⟨by rw [accE_ok H0.out, HA.out], ext_set6 HE2.out (Nat.le_succ _) _ _ _ _ _ _⟩
def divErr (b : Bk) (fs : List (List Int)) : Int := if finErr b fs ≠ 0 then finErr b fs else if divP b fs = [] then 19 else 0
def divL (b : Bk) (fs : List (List Int)) : List Dvd := if finErr b fs = 0 then divP b fs else []
def RetDiv (w : World) (b : Bk) (fs : List (List Int)) (e : Ending) (w' : World) : Prop :=
 Ext w w' ∧ ∃ v, e = .returned (.tuple #[v, .int .i64 (divErr b fs)]) ∧ IsRows w' 3 v ((divL b fs).map divRow)
set_option maxRecDepth 100000 in
set_option maxHeartbeats 1000000 in
theorem dividendsP_any (ps : List (Value × List Int)) (fv : Value) (b : Bk) (ba sa : Option Addr) (bcap scap : Nat) (w : World) (hv : IsBook w b ba bcap sa scap) (hf : IsFin w fv ps) :
  Calls Try.prog 32 #[.agg #[.int .i64 b.kd, .int .i64 b.n, .slice ba b.bets.length bcap, .slice sa b.scr.length scap, .bool b.fav, .int .i64 b.car, .int .i64 b.duty, .int .i64 b.step], fv] w (RetDiv w b (finsOf ps)) := by
 obtain ⟨fa, fcap, rfl, hf1, hf2, -⟩ := hf.spec
 have HF0 := Lib.hid hf
 have HV := Lib.hid hv
 clear hf hv
 go_enter Try.func32, Try.ntmps32
 go_wp2_with fail
 refine (finished_any ps _ b ba sa bcap scap _ (HV.out.ext (by exact xx)) (HF0.out.ext (by exact xx))).mono ?_
 rintro e W1 ⟨hE1, ⟨hne, rfl⟩ | ⟨h0, p, m, rfl, hp, hT⟩⟩
 ·obtain ⟨er, her⟩ : ∃ er, er = finErr b (finsOf ps) := ⟨_, rfl⟩
  rw [← her] at hne ⊢
  have f1 : (er != 0) = true := by simpa using hne
  have HE1 := Lib.hid (Ext.trans' (by exact xx) hE1 : Ext w W1)
  have HER := Lib.hid her
  have HNE := Lib.hid hne
  clear her hne hE1
  go_wp2_with fail
  refine bodyPost_ret (v := .tuple #[.slice none 0 0, .int .i64 er]) (by simp [results, Try.results32, go_sem]) rfl ?_
  have e1 : divErr b (finsOf ps) = er := by unfold divErr; rw [← HER.out, if_pos HNE.out]
  have e2 : divL b (finsOf ps) = [] := by unfold divL; rw [← HER.out, if_neg HNE.out]
  exact ⟨HE1.out, _, by rw [e1], by rw [e2]; exact ⟨none, 0, rfl, by simp, by simp, .inl rfl⟩⟩
 ·have HE1 := Lib.hid (Ext.trans' (by exact xx) hE1 : Ext w W1)
  have H0 := Lib.hid h0
  have HT1 := Lib.hid hT
  have HF1 := Lib.hid (HF0.out.ext HE1.out)
  clear hE1 h0 hT HF0 HV
  go_wp2_with fail
  refine (dividends_any p m b ba sa fa bcap scap fcap ps _ HT1.out HF1.out (finV_of H0.out)).mono ?_
  rintro e W2 ⟨v, rfl, hE2, hrows, -⟩
  obtain ⟨la, lc, rfl, hl1, hl2, -⟩ := divs_spec hrows
  have HE2 := Lib.hid (HE1.out.trans' hE2)
  obtain ⟨L, hL⟩ : ∃ L, L = divP b (finsOf ps) := ⟨_, rfl⟩
  rw [← hL] at hrows ⊢
  have HL := Lib.hid hL
  have HR := Lib.hid hrows
  have HLL : Hid (divL b (finsOf ps) = L) := Lib.hid (by unfold divL; rw [if_pos H0.out, HL.out])
  clear hE2 hL hrows hl1 hl2
  by_cases hl : L = []
  ·have e1 : Hid (divErr b (finsOf ps) = 19) := Lib.hid (by unfold divErr; rw [if_neg (fun h => h H0.out), if_pos (by rw [← HL.out]; exact hl)])
   have f1 : ((L.length : Int) == 0) = true := by rw [hl]; rfl
   have f2 : L.length = 0 := by rw [hl]; rfl
   have HL0 := Lib.hid hl
   clear hl
   go_wp2_with fail
   refine bodyPost_ret (v := .tuple #[.slice none 0 0, .int .i64 19]) (by simp [results, Try.results32, go_sem]) rfl ?_
   exact ⟨HE2.out, _, by rw [e1.out], by rw [HLL.out, HL0.out]; exact ⟨none, 0, rfl, by simp, by simp, .inl rfl⟩⟩
  ·have e1 : Hid (divErr b (finsOf ps) = 0) := Lib.hid (by unfold divErr; rw [if_neg (fun h => h H0.out), if_neg (by rw [← HL.out]; exact hl)])
   have hne : ¬ (L.length = 0) := fun h => hl (List.eq_nil_of_length_eq_zero h)
   have f1 : ((L.length : Int) == 0) = false := by rw [beq_eq_false_iff_ne]; omega
   have f2 : ¬ ((L.length : Int) = 0) := by omega
   clear hl
   go_wp2_with fail
   refine bodyPost_ret (v := .tuple #[.slice la L.length lc, .int .i64 0]) (by simp [results, Try.results32, go_sem]) rfl ?_
   exact ⟨HE2.out, _, by rw [e1.out], by rw [HLL.out]; exact HR.out⟩
end Go.Proofs.Ytphajlldghcnnaa
namespace Go.Proofs.Ytphajlldghcnnaa
open Go.RowKit Go.Shelf
def payP (b : Bk) (fs : List (List Int)) (x : PB) : Int := match onP b x with
 | none => 100 * x.u
 | some s => match (divP b fs).find? fun d => decide (d.1 = s) with
  | none => 0
  | some d => d.2 * x.u
def payErr (b : Bk) (fs : List (List Int)) (k : Int) : Int := if finErr b fs ≠ 0 then finErr b fs else if k < 0 ∨ (b.bets.length : Int) ≤ k then 5 else 0
def betAt (b : Bk) (k : Int) : PB := b.bets.getD k.toNat ⟨0, 0, 0⟩
def payE (b : Bk) (fs : List (List Int)) (k : Int) : Value := .tuple #[.int .i64 (if payErr b fs k = 0 then payP b fs (betAt b k) else 0), .int .i64 (payErr b fs k)]
theorem eql_spot (a b c d : Int) (w : World) : (binOp .eql 110 (.agg #[.int .i64 a, .int .i64 b]) (.agg #[.int .i64 c, .int .i64 d])).run Try.prog w = .ok (.bool (a == c && b == d)) w := by
 have := equal_spot a b c d w
 simp [binOp, go_sem, this]
set_option maxRecDepth 100000 in
set_option maxHeartbeats 4000000 in
theorem pay_any (ps : List (Value × List Int)) (fv : Value) (q : Int) (b : Bk) (ba sa : Option Addr) (bcap scap : Nat) (w : World) (hv : IsBook w b ba bcap sa scap) (hf : IsFin w fv ps) :
  Calls Try.prog 36 #[.agg #[.int .i64 b.kd, .int .i64 b.n, .slice ba b.bets.length bcap, .slice sa b.scr.length scap, .bool b.fav, .int .i64 b.car, .int .i64 b.duty, .int .i64 b.step], fv, .int .i64 q] w fun e w' => e = .returned (payE b (finsOf ps) q) ∧ Ext w w' := by
 obtain ⟨fa, fcap, rfl, hf1, hf2, -⟩ := hf.spec
 obtain ⟨⟨hb1, hb2⟩, -⟩ := hv.caps
 have HF0 := Lib.hid hf
 have HV := Lib.hid hv
 clear hf hv
 go_enter Try.func36, Try.ntmps36
 go_upto_region 1 with (fail)
 obtain ⟨W0, hW0⟩ : ∃ W0, W0 = w.alloc (.cells #[.int .i64 b.kd, .int .i64 b.n, .slice ba b.bets.length bcap, .slice sa b.scr.length scap, .bool b.fav, .int .i64 b.car, .int .i64 b.duty, .int .i64 b.step] 25) := ⟨_, rfl⟩
 have hE0 : Ext w W0 := by rw [hW0]; exact xx
 have hbk0 : BookAt W0 w.heap.size b ba bcap sa scap := by rw [hW0]; constructor <;> simp [go_sem]
 rw [← hW0]
 have k0 := (hbk0).c0
 have k1 := (hbk0).c1
 have k2 := (hbk0).c2
 have k3 := (hbk0).c3
 have k4 := (hbk0).c4
 have k5 := (hbk0).c5
 have k6 := (hbk0).c6
 have k7 := (hbk0).c7
 have hz := (hbk0).lt
 have HE0 := Lib.hid hE0
 have HBK0 := Lib.hid hbk0
 clear hW0 hE0 hbk0
 go_wp2_with fail
 refine (finished_any ps _ b ba sa bcap scap _ (HV.out.ext HE0.out) (HF0.out.ext HE0.out)).mono ?_
 rintro e W1 ⟨hE1, ⟨hne, rfl⟩ | ⟨h0, p, m, rfl, hp, hT⟩⟩
 ·obtain ⟨er, her⟩ : ∃ er, er = finErr b (finsOf ps) := ⟨_, rfl⟩
  rw [← her] at hne ⊢
  have f1 : (er != 0) = true := by simpa using hne
  have HE1 := Lib.hid (HE0.out.trans' hE1)
  have HER := Lib.hid her
  have HNE := Lib.hid hne
  clear her hne hE1 k0 k1 k2 k3 k4 k5 k6 k7
  go_wp2_with fail
  refine bodyPost_ret (v := .tuple #[.int .i64 0, .int .i64 er]) (by simp [results, Try.results36, go_sem]) rfl ?_
  have e1 : payErr b (finsOf ps) q = er := by unfold payErr; rw [← HER.out, if_pos HNE.out]
  exact ⟨by unfold payE; rw [e1, if_neg HNE.out], HE1.out⟩
 have HE1 := Lib.hid (HE0.out.trans' hE1)
 have H0 := Lib.hid h0
 have HT1 := Lib.hid hT
 have HF1 := Lib.hid (HF0.out.ext HE1.out)
 have k2' := cell_ext hE1 k2
 have hz1 := World.block_lt_of_cell? _ _ k2'
 simp only at hz1
 have HBS := Lib.hid (HV.out.bets.ext HE1.out)
 have HSC := Lib.hid (HV.out.scr.ext HE1.out)
 have PE1 : Hid (∀ k, k < 0 ∨ (b.bets.length : Int) ≤ k → payE b (finsOf ps) k = .tuple #[.int .i64 0, .int .i64 5]) := Lib.hid fun k hk => by
  have e1 : payErr b (finsOf ps) k = 5 := by unfold payErr; rw [if_neg (fun h => h h0), if_pos hk]
  unfold payE; rw [e1, if_neg (by decide)]
 have PE0 : Hid (∀ k, ¬ (k < 0 ∨ (b.bets.length : Int) ≤ k) → payE b (finsOf ps) k = .tuple #[.int .i64 (payP b (finsOf ps) (betAt b k)), .int .i64 0]) := Lib.hid fun k hk => by
  have e1 : payErr b (finsOf ps) k = 0 := by unfold payErr; rw [if_neg (fun h => h h0), if_neg hk]
  unfold payE; rw [e1, if_pos rfl]
 clear hE1 h0 hT k0 k1 k2 k3 k4 k5 k6 k7 HF0 HBK0
 by_cases hq0 : q < 0
 ·go_wp2_with fail
  refine bodyPost_ret (v := .tuple #[.int .i64 0, .int .i64 5]) (by simp [results, Try.results36, go_sem]) rfl ?_
  exact ⟨by rw [PE1.out q (.inl hq0)], HE1.out⟩
 by_cases hq1 : (b.bets.length : Int) ≤ q
 ·have hq2 : q ≥ (b.bets.length : Int) := hq1
  go_wp2_with fail
  refine bodyPost_ret (v := .tuple #[.int .i64 0, .int .i64 5]) (by simp [results, Try.results36, go_sem]) rfl ?_
  exact ⟨by rw [PE1.out q (.inr hq1)], HE1.out⟩
 obtain ⟨j, rfl⟩ : ∃ j : Nat, q = (j : Int) := ⟨q.toNat, by omega⟩
 have hj : j < b.bets.length := by omega
 have hji : (j : Int) < (b.bets.length : Int) := by omega
 obtain ⟨_, _, eb, -, -, hbc⟩ := HBS.out.spec
 cases eb
 rcases hbc with hbc | ⟨bb, bo, rfl, hbc⟩
 ·rw [hbc] at hj; simp at hj
 obtain ⟨c0, c1, c2⟩ := hbc j hj
 obtain ⟨x, hx⟩ : ∃ x, x = b.bets[j] := ⟨_, rfl⟩
 rw [← hx] at c0 c1 c2
 have hxm : x ∈ b.bets := by rw [hx]; exact List.getElem_mem hj
 have hxb := ((finV_of H0.out).book.bet hxm).1
 have PE : Hid (payE b (finsOf ps) (j : Int) = .tuple #[.int .i64 (payP b (finsOf ps) x), .int .i64 0]) := Lib.hid (by
  rw [PE0.out _ (by omega)]
  have : betAt b (j : Int) = x := by unfold betAt; rw [Int.toNat_natCast, List.getD_eq_getElem?_getD, List.getElem?_eq_getElem hj, hx]; rfl
  rw [this])
 have hzb := World.block_lt_of_cell? _ _ c0
 simp only at hzb
 have HXM := Lib.hid hxm
 clear hbc hx hxm PE0 PE1
 go_wp2_with fail
 refine (on_any b (some ⟨bb, bo, none⟩) sa bcap scap (favP b) x p _ (HT1.out.ext (by exact xx)).till.book (HT1.out.ext (by exact xx)).till.c8 (HSC.out.ext (by exact xx))).mono ?_
 rintro e W2 ⟨rfl, hE2⟩
 rw [← onP_eq]
 have x2 : W2.cell? ⟨W1.heap.size, 2, none⟩ = some (.int .i64 x.u) := cell_ext hE2 (by simp [go_sem])
 have hEE : Ext W1 W2 := Ext.trans' (by exact xx) hE2
 have HE2 := Lib.hid (HE1.out.trans' hEE)
 have HT2 := Lib.hid (HT1.out.ext hEE)
 have HF2 := Lib.hid (HF1.out.ext hEE)
 have hz2 := World.block_lt_of_cell? _ _ x2
 simp only at hz2
 obtain ⟨u, hu⟩ : ∃ u, u = x.u := ⟨_, rfl⟩
 rw [← hu] at x2 hxb
 have HU := Lib.hid hu
 clear hE2 hEE c0 c1 c2 k2' hu
 rcases ho : onP b x with _ | ⟨s1, s2⟩
 ·have hpp : Hid (payP b (finsOf ps) x = 100 * u) := Lib.hid (by unfold payP; rw [ho, HU.out])
  have hw : IntKind.i64.wrap (100 * u) = 100 * u := IntWalk.i64_in _ (by omega)
  simp only [Option.getD, Option.isSome]
  clear ho
  go_wp2_with fail
  refine bodyPost_ret (v := .tuple #[.int .i64 (100 * u), .int .i64 0]) (by simp [results, Try.results36, go_sem]) rfl ?_
  exact ⟨by rw [PE.out, hpp.out], HE2.out.trans' (by exact xx)⟩
 have HO := Lib.hid ho
 simp only [Option.getD, Option.isSome]
 clear ho
 go_wp2_with fail
 refine (dividends_any p m b (some ⟨bb, bo, none⟩) sa fa bcap scap fcap ps _ (HT2.out.ext (by exact xx)) (HF2.out.ext (by exact xx)) (finV_of H0.out)).mono ?_
 rintro e W3 ⟨v, rfl, hE3, hrows, -⟩
 obtain ⟨la, lc, rfl, hl1, hl2, -⟩ := divs_spec hrows
 have hEE : Ext W2 W3 := Ext.trans' (by exact xx) hE3
 have y0 : W3.cell? ⟨W2.heap.size, 0, none⟩ = some (.int .i64 s1) := cell_ext hE3 (by simp [go_sem])
 have y1 : W3.cell? ⟨W2.heap.size, 1, none⟩ = some (.int .i64 s2) := cell_ext hE3 (by simp [go_sem])
 have x3 := cell_ext hEE x2
 have HE3 := Lib.hid (HE2.out.trans' hEE)
 have HR := Lib.hid hrows
 have hz3 := World.block_lt_of_cell? _ _ y0
 simp only at hz3
 have hz4 := hEE.size
 obtain ⟨L, hL⟩ : ∃ L, L = divP b (finsOf ps) := ⟨_, rfl⟩
 rw [← hL] at hl1 HR ⊢
 have HL := Lib.hid hL
 have h64 := divP_le (finV_of H0.out)
 rw [← hL] at h64
 clear hE3 hrows hL hEE x2
 go_wp2_with fail
 go_loopw [55] (fun iv W => ∃ k : Nat, k ≤ L.length ∧ iv = .int .i64 k ∧ (∀ d ∈ L.take k, d.1 ≠ (s1, s2)) ∧ Ext W3 W) (fun iv _ => L.length - (intOf iv).toNat)
 case atStart => exact ⟨0, by omega, rfl, by simp, Below.refl _ _⟩
 case round =>
  obtain ⟨k, hk, rfl, hno, hE⟩ := hrel
  have HE := Lib.hid hE
  by_cases hlt : k < L.length
  ·have hki : (k : Int) < (L.length : Int) := by omega
   obtain ⟨_, _, e, -, -, hcc⟩ := divs_spec HR.out
   cases e
   rcases hcc with hcc | ⟨lb, lo, rfl, hcc⟩
   ·rw [hcc] at hlt; simp at hlt
   obtain ⟨e0, e1, e2⟩ := hcc k hlt
   have d0 := cell_ext hE e0
   have d1 := cell_ext hE e1
   have d2 := cell_ext hE e2
   have y0r := cell_ext hE y0
   have y1r := cell_ext hE y1
   have x3r := cell_ext hE x3
   obtain ⟨x0, hx0⟩ : ∃ x, x = L[k].1.1 := ⟨_, rfl⟩
   obtain ⟨x1, hx1⟩ : ∃ x, x = L[k].1.2 := ⟨_, rfl⟩
   obtain ⟨x2, hx2⟩ : ∃ x, x = L[k].2 := ⟨_, rfl⟩
   rw [← hx0] at d0
   rw [← hx1] at d1
   rw [← hx2] at d2
   have hzl := World.block_lt_of_cell? _ _ d0
   have hzy := World.block_lt_of_cell? _ _ y0r
   have hzx := World.block_lt_of_cell? _ _ x3r
   simp only at hzl hzy hzx
   have hxs : L[k].1 = (x0, x1) := by rw [hx0, hx1]
   by_cases hs : x0 = s1 ∧ x1 = s2
   ·obtain ⟨rfl, rfl⟩ := hs
    have heq : ∀ W, (binOp .eql 110 (.agg #[.int .i64 x0, .int .i64 x1]) (.agg #[.int .i64 x0, .int .i64 x1])).run Try.prog W = .ok (.bool true) W := fun W => by rw [eql_spot]; simp
    have hfd : L.find? (fun d => decide (d.1 = (x0, x1))) = some L[k] := by
     have e : L = L.take k ++ L[k] :: L.drop (k + 1) := by rw [List.getElem_cons_drop, List.take_append_drop]
     have h1 : (L.take k).find? (fun d => decide (d.1 = (x0, x1))) = none := by
      rw [List.find?_eq_none]
      intro d hd
      simpa using hno d hd
     conv => lhs; rw [e]
     rw [List.find?_append, h1, List.find?_cons, hxs]
     simp
    have hpp : Hid (payP b (finsOf ps) x = x2 * u) := Lib.hid (by
     have h2 : (divP b (finsOf ps)).find? (fun d => decide (d.1 = (x0, x1))) = some L[k] := by rw [← HL.out]; exact hfd
     unfold payP
     rw [HO.out]
     simp only
     rw [h2, hx2, HU.out])
    have hpb : 0 ≤ x2 ∧ x2 ≤ 1100000000 := by
     have hm : L[k] ∈ divP b (finsOf ps) := by rw [← HL.out]; exact List.getElem_mem hlt
     unfold divP at hm
     obtain ⟨s, hs, e⟩ := List.mem_map.1 hm
     have h1 := pence_le (finV_of H0.out) hs
     rw [← e] at hx2
     simp only at hx2
     omega
    have hm0 : 0 ≤ x2 * u := Int.mul_nonneg hpb.1 (by omega)
    have hm1 : x2 * u ≤ 1100000000 * 1000 := Int.mul_le_mul hpb.2 hxb.2 (by omega) (by omega)
    have hw : IntKind.i64.wrap (x2 * u) = x2 * u := IntWalk.i64_in _ (by omega)
    clear hcc e0 e1 e2 hx0 hx1 hx2 hxs hfd hno hE
    go_wp2_with fail
    refine bodyPost_ret (v := .tuple #[.int .i64 (x2 * u), .int .i64 0]) (by simp [results, Try.results36, go_sem]) rfl ?_
    exact ⟨by rw [PE.out, hpp.out], (HE3.out.trans' HE.out).trans' (by exact xx)⟩
   ·have heq : ∀ W, (binOp .eql 110 (.agg #[.int .i64 s1, .int .i64 s2]) (.agg #[.int .i64 x0, .int .i64 x1])).run Try.prog W = .ok (.bool false) W := fun W => by
     rw [eql_spot]
     have : (s1 == x0 && s2 == x1) = false := by
      rw [Bool.and_eq_false_iff, beq_eq_false_iff_ne, beq_eq_false_iff_ne]
      by_cases e : s1 = x0
      ·exact .inr fun e2 => hs ⟨e.symm, e2.symm⟩
      ·exact .inl e
     rw [this]
    have hno2 : ∀ d ∈ L.take (k + 1), d.1 ≠ (s1, s2) := by
     intro d hd
     rw [List.take_add_one, List.getElem?_eq_getElem hlt, List.mem_append] at hd
     rcases hd with hd | hd
     ·exact hno d hd
     ·simp at hd
      subst hd
      rw [hxs]
      intro e
      exact hs ⟨(Prod.mk.inj e).1, (Prod.mk.inj e).2⟩
    have HNO := Lib.hid hno2
    clear hcc e0 e1 e2 hx0 hx1 hx2 hxs hno hno2 hE hs
    go_wp2_with fail
    go_roundw
    case rel => exact ⟨k + 1, by omega, by go_num, HNO.out, HE.out.trans' (by exact xx)⟩
    case measure => simp [intOf]; omega
  ·have hki : ¬ ((k : Int) < (L.length : Int)) := by omega
   have hke : k = L.length := by omega
   rw [hke, List.take_length] at hno
   have hpp : Hid (payP b (finsOf ps) x = 0) := Lib.hid (by
    have h2 : (divP b (finsOf ps)).find? (fun d => decide (d.1 = (s1, s2))) = none := by
     rw [← HL.out, List.find?_eq_none]
     intro d hd
     simpa using hno d hd
    unfold payP
    rw [HO.out]
    simp only
    rw [h2])
   clear hke hno hE
   go_wp2_with fail
   refine bodyPost_ret (v := .tuple #[.int .i64 0, .int .i64 0]) (by simp [results, Try.results36, go_sem]) rfl ?_
   exact ⟨by rw [PE.out, hpp.out], HE3.out.trans' HE.out⟩
end Go.Proofs.Ytphajlldghcnnaa
namespace Go.Proofs.Ytphajlldghcnnaa
open Go.RowKit Go.Shelf
set_option maxHeartbeats 2000000 in
theorem equal_dvd (a b c a' b' c' : Int) (w : World) : (Op.equal 73 (.agg #[.int .i64 a, .int .i64 b, .int .i64 c]) (.agg #[.int .i64 a', .int .i64 b', .int .i64 c'])).run Try.prog w = .ok (a == a' && b == b' && c == c') w := by
 simp only [Op.equal, Op.maxDepth]
 rw [run_equalIn_struct w 9999 73 _ _ (by kernel_rfl) (by kernel_rfl)]
 have hf : (Try.prog.fieldsOf 73).toList = [⟨"First", 3, 0, false, "", "", 0⟩, ⟨"Second", 3, 1, false, "", "", 8⟩, ⟨"Pence", 2, 2, false, "", "", 16⟩] := by kernel_rfl
 rw [hf]
 by_cases e1 : a = a' <;> by_cases e2 : b = b' <;> by_cases e3 : c = c' <;> simp [go_sem, e1, e2, e3]
set_option maxHeartbeats 2000000 in
theorem equal_bet (a b c a' b' c' : Int) (w : World) : (Op.equal 62 (.agg #[.int .i64 a, .int .i64 b, .int .i64 c]) (.agg #[.int .i64 a', .int .i64 b', .int .i64 c'])).run Try.prog w = .ok (a == a' && b == b' && c == c') w := by
 simp only [Op.equal, Op.maxDepth]
 rw [run_equalIn_struct w 9999 62 _ _ (by kernel_rfl) (by kernel_rfl)]
 have hf : (Try.prog.fieldsOf 62).toList = [⟨"First", 3, 0, false, "", "", 0⟩, ⟨"Second", 3, 1, false, "", "", 8⟩, ⟨"Units", 2, 2, false, "", "", 16⟩] := by kernel_rfl
 rw [hf]
 by_cases e1 : a = a' <;> by_cases e2 : b = b' <;> by_cases e3 : c = c' <;> simp [go_sem, e1, e2, e3]
set_option maxHeartbeats 2000000 in
theorem equal_rng (a b a' b' : Int) (w : World) : (Op.equal 56 (.agg #[.int .i64 a, .int .i64 b]) (.agg #[.int .i64 a', .int .i64 b'])).run Try.prog w = .ok (a == a' && b == b') w := by
 simp only [Op.equal, Op.maxDepth]
 rw [run_equalIn_struct w 9999 56 _ _ (by kernel_rfl) (by kernel_rfl)]
 have hf : (Try.prog.fieldsOf 56).toList = [⟨"Lo", 2, 0, false, "", "", 0⟩, ⟨"Hi", 2, 1, false, "", "", 8⟩] := by kernel_rfl
 rw [hf]
 by_cases e1 : a = a' <;> by_cases e2 : b = b' <;> simp [go_sem, e1, e2]
set_option maxHeartbeats 4000000 in
theorem equal_acc (x y : Acc) (w : World) : (Op.equal 48 (accV x) (accV y)).run Try.prog w = .ok (decide (x = y)) w := by
 simp only [Op.equal, Op.maxDepth, accV, accC]
 rw [run_equalIn_struct w 9999 48 _ _ (by kernel_rfl) (by kernel_rfl)]
 have hf : (Try.prog.fieldsOf 48).toList = [⟨"In", 2, 0, false, "", "", 0⟩, ⟨"Back", 2, 1, false, "", "", 8⟩, ⟨"Duty", 2, 2, false, "", "", 16⟩, ⟨"Paid", 2, 3, false, "", "", 24⟩, ⟨"Kept", 2, 4, false, "", "", 32⟩, ⟨"Over", 2, 5, false, "", "", 40⟩] := by kernel_rfl
 rw [hf]
 obtain ⟨a1, a2, a3, a4, a5, a6⟩ := x
 obtain ⟨b1, b2, b3, b4, b5, b6⟩ := y
 simp only [Acc.mk.injEq]
 by_cases e1 : a1 = b1
 ·by_cases e2 : a2 = b2
  ·by_cases e3 : a3 = b3
   ·by_cases e4 : a4 = b4
    ·by_cases e5 : a5 = b5
     ·by_cases e6 : a6 = b6 <;> simp [go_sem, e1, e2, e3, e4, e5, e6]
     ·simp [go_sem, e1, e2, e3, e4, e5]
    ·simp [go_sem, e1, e2, e3, e4]
   ·simp [go_sem, e1, e2, e3]
  ·simp [go_sem, e1, e2]
 ·simp [go_sem, e1]
set_option maxHeartbeats 2000000 in
theorem equal_two (a b a' b' : Int) (w : World) : (Op.equal 71 (.agg #[.int .i64 a, .int .i64 b]) (.agg #[.int .i64 a', .int .i64 b'])).run Try.prog w = .ok (a == a' && b == b') w := by
 have hi : ∀ x y : Int, ∀ w, (Op.equalIn 9999 3 (.int .i64 x) (.int .i64 y)).run Try.prog w = .ok (x == y) w := fun x y w => run_equalIn_int w 9998 3 .i64 .i64 x y (by kernel_rfl)
 simp only [Op.equal, Op.maxDepth]
 rw [Op.equalIn]
 simp only [Sem.run_bind, Try.runUnderlying71, Result.andThen_ok]
 have hr : List.range' 0 2 = [0, 1] := rfl
 by_cases e1 : a = a'
 ·by_cases e2 : b = b' <;> simp [go_sem, hi, e1, e2, hr]
 ·simp [go_sem, hi, e1, hr]
theorem eql_dvd (w : World) (a b c a' b' c' : Int) : (binOp .eql 73 (.agg #[.int .i64 a, .int .i64 b, .int .i64 c]) (.agg #[.int .i64 a', .int .i64 b', .int .i64 c'])).run Try.prog w = .ok (.bool (a == a' && b == b' && c == c')) w := by
 have := equal_dvd a b c a' b' c' w
 skip
 simp [binOp, go_sem, this]
theorem neq_dvd (w : World) (a b c a' b' c' : Int) : (binOp .neq 73 (.agg #[.int .i64 a, .int .i64 b, .int .i64 c]) (.agg #[.int .i64 a', .int .i64 b', .int .i64 c'])).run Try.prog w = .ok (.bool (!(a == a' && b == b' && c == c'))) w := by
 have := equal_dvd a b c a' b' c' w
 skip
 simp [binOp, go_sem, this]
theorem eql_bet (w : World) (a b c a' b' c' : Int) : (binOp .eql 62 (.agg #[.int .i64 a, .int .i64 b, .int .i64 c]) (.agg #[.int .i64 a', .int .i64 b', .int .i64 c'])).run Try.prog w = .ok (.bool (a == a' && b == b' && c == c')) w := by
 have := equal_bet a b c a' b' c' w
 skip
 simp [binOp, go_sem, this]
theorem neq_bet (w : World) (a b c a' b' c' : Int) : (binOp .neq 62 (.agg #[.int .i64 a, .int .i64 b, .int .i64 c]) (.agg #[.int .i64 a', .int .i64 b', .int .i64 c'])).run Try.prog w = .ok (.bool (!(a == a' && b == b' && c == c'))) w := by
 have := equal_bet a b c a' b' c' w
 skip
 simp [binOp, go_sem, this]
theorem eql_rng (w : World) (a b a' b' : Int) : (binOp .eql 56 (.agg #[.int .i64 a, .int .i64 b]) (.agg #[.int .i64 a', .int .i64 b'])).run Try.prog w = .ok (.bool (a == a' && b == b')) w := by
 have := equal_rng a b a' b' w
 skip
 simp [binOp, go_sem, this]
theorem neq_rng (w : World) (a b a' b' : Int) : (binOp .neq 56 (.agg #[.int .i64 a, .int .i64 b]) (.agg #[.int .i64 a', .int .i64 b'])).run Try.prog w = .ok (.bool (!(a == a' && b == b'))) w := by
 have := equal_rng a b a' b' w
 skip
 simp [binOp, go_sem, this]
theorem eql_two (w : World) (a b a' b' : Int) : (binOp .eql 71 (.agg #[.int .i64 a, .int .i64 b]) (.agg #[.int .i64 a', .int .i64 b'])).run Try.prog w = .ok (.bool (a == a' && b == b')) w := by
 have := equal_two a b a' b' w
 skip
 simp [binOp, go_sem, this]
theorem neq_two (w : World) (a b a' b' : Int) : (binOp .neq 71 (.agg #[.int .i64 a, .int .i64 b]) (.agg #[.int .i64 a', .int .i64 b'])).run Try.prog w = .ok (.bool (!(a == a' && b == b'))) w := by
 have := equal_two a b a' b' w
 skip
 simp [binOp, go_sem, this]
theorem eql_acc (w : World) (p q : Acc) : (binOp .eql 48 (.agg #[.int .i64 p.i, .int .i64 p.k, .int .i64 p.d, .int .i64 p.p, .int .i64 p.q, .int .i64 p.o]) (.agg #[.int .i64 q.i, .int .i64 q.k, .int .i64 q.d, .int .i64 q.p, .int .i64 q.q, .int .i64 q.o])).run Try.prog w = .ok (.bool (decide (p = q))) w := by
 have := equal_acc p q w
 simp only [accV, accC] at this
 simp [binOp, go_sem, this]
theorem neq_acc (w : World) (p q : Acc) : (binOp .neq 48 (.agg #[.int .i64 p.i, .int .i64 p.k, .int .i64 p.d, .int .i64 p.p, .int .i64 p.q, .int .i64 p.o]) (.agg #[.int .i64 q.i, .int .i64 q.k, .int .i64 q.d, .int .i64 q.p, .int .i64 q.q, .int .i64 q.o])).run Try.prog w = .ok (.bool (!(decide (p = q)))) w := by
 have := equal_acc p q w
 simp only [accV, accC] at this
 simp [binOp, go_sem, this]
end Go.Proofs.Ytphajlldghcnnaa
