/-
  The walks of CheckHall, of the program and of the reference: both return chk of the hall.
  The walk of the reference's CheckHall: it returns chk of the hall.
-/
import Derived.Test.YtgcldgchhdjnhaaIdx
namespace Go.Proofs.Ytgcldgchhdjnhaa
open Go.RowKit

set_option maxHeartbeats 400000 in
theorem within1_any (n lo hi : Int) (a b : Addr) (w : World) (h1 : w.cell? a = some (.int .i64 lo)) (h2 : w.cell? b = some (.int .i64 hi)) :
    Calls Try.prog 98 #[.int .i64 n, .pointer (some a), .pointer (some b)] w fun e w' => e = .returned (.bool (decide (n < lo) || decide (hi < n))) ∧ Ext w w' := by
  go_enter Try.func98, Try.ntmps98
  go_wp2
  all_goals
    go_ret
    exact ⟨ret_bool (by simp [*]), Below.refl _ _⟩

theorem any_inR (lo hi : Int) (l : List Int) : (!l.any fun n => decide (n < lo) || decide (hi < n)) = l.all (inR lo hi) := by
  induction l with
  | nil => rfl
  | cons a l ih => simp only [List.any_cons, List.all_cons, Bool.not_or, ← ih, inR]

set_option maxHeartbeats 400000 in
theorem within_any (lo hi : Int) (v : Value) (l : List Int) (w : World) (hv : IsInts w .i64 v l) :
    Calls Try.prog 66 #[.int .i64 lo, .int .i64 hi, v] w fun e w' => e = .returned (.bool (l.all (inR lo hi))) ∧ Ext w w' := by
  obtain ⟨sa, cap, rfl, h1, h2, h3⟩ := hv.spec
  have H3 := Lib.hid h3
  clear h3 hv
  go_enter Try.func66, Try.ntmps66
  go_wp2_with fail
  have hE : Ext w ((w.alloc (.cells #[.int .i64 lo] 2)).alloc (.cells #[.int .i64 hi] 2)) := ((Below.refl _ _).alloc (Nat.le_refl _) _).alloc (by simp) _
  have e1 : ((w.alloc (.cells #[.int .i64 lo] 2)).alloc (.cells #[.int .i64 hi] 2)).cell? ⟨w.heap.size, 0, none⟩ = some (.int .i64 lo) := by simp [go_sem]
  have e2 : ((w.alloc (.cells #[.int .i64 lo] 2)).alloc (.cells #[.int .i64 hi] 2)).cell? ⟨w.heap.size + 1, 0, none⟩ = some (.int .i64 hi) := by simp [go_sem]
  refine (containsFuncI64 l sa cap 98 #[.pointer (some ⟨w.heap.size, 0, none⟩), .pointer (some ⟨w.heap.size + 1, 0, none⟩)] (fun n => decide (n < lo) || decide (hi < n)) _ (by omega) (H3.out.imp id fun ⟨b, off, e, hc⟩ => ⟨b, off, e, fun i hi => cell_ext hE (hc i hi)⟩)
    (fun args W => Try.call98 args W) (fun x _ W hW => within1_any x lo hi _ _ W (cell_ext hW e1) (cell_ext hW e2))).mono ?_
  rintro e W' ⟨rfl, hb⟩
  clear e1 e2
  go_wp2
  all_goals
    go_ret
    refine ⟨ret_bool (a := !l.any fun n => decide (n < lo) || decide (hi < n)) ?_, hE.trans' hb⟩
    exact any_inR lo hi l


theorem isInts_two {w : World} {b cap : Nat} {x y : Int} (h2 : 2 ≤ cap) (h3 : cap ≤ 9223372036854775807) (c0 : w.cell? ⟨b, 0, none⟩ = some (.int .i64 x)) (c1 : w.cell? ⟨b, 1, none⟩ = some (.int .i64 y)) :
    IsInts w .i64 (.slice (some ⟨b, 0, none⟩) 2 cap) [x, y] := by
  refine IsInts.mk (l := [x, y]) (off := 0) (by simpa using h2) h3 fun i hi => ?_
  match i, hi with
  | 0, _ => simpa using c0
  | 1, _ => simpa using c1
theorem isInts_one {w : World} {b cap : Nat} {x : Int} (h2 : 1 ≤ cap) (h3 : cap ≤ 9223372036854775807) (c0 : w.cell? ⟨b, 0, none⟩ = some (.int .i64 x)) :
    IsInts w .i64 (.slice (some ⟨b, 0, none⟩) 1 cap) [x] := by
  refine IsInts.mk (l := [x]) (off := 0) (by simpa using h2) h3 fun i hi => ?_
  match i, hi with
  | 0, _ => simpa using c0

def oddC (n : Int) (c : Cnt) : Bool := decide (c.t < c.f) || !(inR 0 (n - 1) c.f && inR 0 (n - 1) c.t)
def badC (c : Cnt) : Bool := decide (c.hi < c.lo) || !(inR 0 10000000 c.lo && inR 0 10000000 c.hi)

set_option maxHeartbeats 400000 in
theorem checkHall1_any (c : Cnt) (n : Int) (h1 : 1 ≤ n) (h10 : n ≤ 10) (a : Addr) (w : World) (c0 : w.cell? a = some (.int .i64 n)) (ha : a.spot = none) :
    Calls Try.prog 65 #[.agg #[.int .i64 c.f, .int .i64 c.t, .int .i64 c.lo, .int .i64 c.hi], .pointer (some a)] w fun e w' => e = .returned (.bool (oddC n c)) ∧ Ext w w' := by
  obtain ⟨b, o, sp⟩ := a
  obtain rfl : sp = none := ha
  have hbl : b < w.heap.size := World.block_lt_of_cell? w _ c0
  by_cases h : c.t < c.f
  · go_enter Try.func65, Try.ntmps65
    go_wp2
    go_ret
    exact ⟨ret_bool (by simp [oddC, h]), (Below.refl _ _).alloc (Nat.le_refl _) _⟩
  · go_enter Try.func65, Try.ntmps65
    go_wp2_with fail
    refine (within_any 0 (n - 1) _ [c.f, c.t] _ (isInts_two (by omega) (by omega) (by simp [go_sem]) (by simp [go_sem]))).mono ?_
    rintro e W' ⟨rfl, hb⟩
    go_wp2
    all_goals
      go_ret
      exact ⟨ret_bool (by simp [oddC]; omega), (by repeat (first | exact Below.refl _ _ | refine Ext.al ?_ _ | refine Ext.dr ?_ | refine Ext.drN ?_ _ | refine Ext.gr ?_ _ | refine Ext.set ?_ (by simp) _ | (refine Ext.trans' ?_ (by assumption))))⟩

set_option maxHeartbeats 400000 in
theorem checkHall2_any (c : Cnt) (w : World) :
    Calls Try.prog 67 #[.agg #[.int .i64 c.f, .int .i64 c.t, .int .i64 c.lo, .int .i64 c.hi]] w fun e w' => e = .returned (.bool (badC c)) ∧ Ext w w' := by
  by_cases h : c.hi < c.lo
  · go_enter Try.func67, Try.ntmps67
    go_wp2
    go_ret
    exact ⟨ret_bool (by simp [badC, h]), (by repeat (first | exact Below.refl _ _ | refine Ext.al ?_ _ | refine Ext.dr ?_ | refine Ext.drN ?_ _ | refine Ext.gr ?_ _ | refine Ext.set ?_ (by simp) _ | (refine Ext.trans' ?_ (by assumption))))⟩
  · go_enter Try.func67, Try.ntmps67
    go_wp2_with fail
    refine (within_any 0 10000000 _ [c.lo, c.hi] _ (isInts_two (by omega) (by omega) (by simp [go_sem]) (by simp [go_sem]))).mono ?_
    rintro e W' ⟨rfl, hb⟩
    go_wp2
    all_goals
      go_ret
      exact ⟨ret_bool (by simp [badC]; omega), (by repeat (first | exact Below.refl _ _ | refine Ext.al ?_ _ | refine Ext.dr ?_ | refine Ext.drN ?_ _ | refine Ext.gr ?_ _ | refine Ext.set ?_ (by simp) _ | (refine Ext.trans' ?_ (by assumption))))⟩

def Cnt.cells (c : Cnt) : List Value := [.int .i64 c.f, .int .i64 c.t, .int .i64 c.lo, .int .i64 c.hi]
/-- a slice of counters -/
def IsCnts (w : World) (v : Value) (l : List Cnt) : Prop := IsRows w 4 v (l.map Cnt.cells)
theorem IsCnts.ext {w w' : World} (h : Ext w w') {v : Value} {l : List Cnt} (hr : IsCnts w v l) : IsCnts w' v l := IsRows.ext h hr
theorem IsCnts.spec {w : World} {v : Value} {l : List Cnt} (h : IsCnts w v l) :
    ∃ sa cap, v = .slice sa l.length cap ∧ l.length ≤ cap ∧ cap ≤ 9223372036854775807 ∧ (l = [] ∨ ∃ b off, sa = some ⟨b, off, none⟩ ∧ ∀ i, (h : i < l.length) →
      w.cell? ⟨b, off + i * 4, none⟩ = some (.int .i64 l[i].f) ∧ w.cell? ⟨b, off + i * 4 + 1, none⟩ = some (.int .i64 l[i].t) ∧ w.cell? ⟨b, off + i * 4 + 2, none⟩ = some (.int .i64 l[i].lo) ∧ w.cell? ⟨b, off + i * 4 + 3, none⟩ = some (.int .i64 l[i].hi)) := by
  obtain ⟨sa, cap, h1, h2, h3, h4⟩ := h
  refine ⟨sa, cap, by simpa using h1, by simpa using h2, h3, ?_⟩
  rcases h4 with h4 | ⟨b, off, e, h4⟩
  · exact .inl (by simpa using h4)
  · refine .inr ⟨b, off, e, fun i hi => ?_⟩
    have h4' := h4 i (by simpa using hi)
    have a0 := h4' 0 (by simp [Cnt.cells])
    have a1 := h4' 1 (by simp [Cnt.cells])
    have a2 := h4' 2 (by simp [Cnt.cells])
    have a3 := h4' 3 (by simp [Cnt.cells])
    simp [Cnt.cells] at a0 a1 a2 a3
    exact ⟨a0, a1, a2, a3⟩
theorem IsCnts.opened {w : World} {sa : Option Addr} {cap n : Nat} {l : List Cnt} (h : IsCnts w (.slice sa n cap) l) :
    (l = [] ∨ ∃ b off, sa = some ⟨b, off, none⟩ ∧ ∀ i, (h : i < l.length) →
      w.cell? ⟨b, off + i * 4, none⟩ = some (.int .i64 l[i].f) ∧ w.cell? ⟨b, off + i * 4 + 1, none⟩ = some (.int .i64 l[i].t) ∧ w.cell? ⟨b, off + i * 4 + 2, none⟩ = some (.int .i64 l[i].lo) ∧ w.cell? ⟨b, off + i * 4 + 3, none⟩ = some (.int .i64 l[i].hi)) := by
  obtain ⟨sa', cap', e, _, _, h3⟩ := h.spec
  cases e
  exact h3
/-- the error of a hall, as the program finds it -/
def chk2 (h : Hall) : Int :=
  if ¬ (1 ≤ h.n ∧ h.n ≤ 10) ∨ ¬ h.cs.length ≤ 10 then 6
  else if h.cs.any (oddC h.n) then 2
  else if ¬ (0 ≤ h.most ∧ h.most ≤ 1000000) ∨ h.cs.any badC then 3
  else 0
theorem any_congr' {α : Type} {p q : α → Bool} (l : List α) (h : ∀ x ∈ l, p x = q x) : l.any p = l.any q := by
  induction l with
  | nil => rfl
  | cons a l ih => simp only [List.any_cons]; rw [h a (by simp), ih fun x hx => h x (by simp [hx])]
theorem chk_eq (h : Hall) : chk h = chk2 h := by
  unfold chk chk2
  by_cases h1 : h.n < 1 ∨ 10 < h.n ∨ 10 < h.cs.length
  · rw [if_pos h1, if_pos (show ¬ (1 ≤ h.n ∧ h.n ≤ 10) ∨ ¬ h.cs.length ≤ 10 from by omega)]
  · rw [if_neg h1, if_neg (show ¬ (¬ (1 ≤ h.n ∧ h.n ≤ 10) ∨ ¬ h.cs.length ≤ 10) from by omega)]
    have e : h.cs.any (fun c => decide (c.f < 0) || decide (c.t < c.f) || decide (h.n ≤ c.t)) = h.cs.any (oddC h.n) := by
      refine any_congr' _ fun c _ => ?_
      rw [Bool.eq_iff_iff]
      simp [oddC, inR]
      omega
    have e2 : h.cs.any (fun c => !(decide (0 ≤ c.lo) && decide (c.lo ≤ c.hi) && decide (c.hi ≤ 10000000))) = h.cs.any badC := by
      refine any_congr' _ fun c _ => ?_
      rw [Bool.eq_iff_iff]
      simp [badC, inR]
      omega
    rw [e, e2]
    by_cases h2 : h.cs.any (oddC h.n) = true
    · rw [if_pos h2, if_pos h2]
    · rw [if_neg h2, if_neg h2]
      by_cases h3 : h.most < 0 ∨ 1000000 < h.most
      · rw [if_pos h3, if_pos (Or.inl (by omega))]
      · rw [if_neg h3]
        by_cases h4 : h.cs.any badC = true
        · rw [if_pos h4, if_pos (Or.inr h4)]
        · rw [if_neg h4, if_neg (by rintro (h | h); omega; exact h4 h)]
/-- the value of a hall; where its counters lie is another value -/
def Hall.val (h : Hall) (sv : Value) : Value := .agg #[.int .i64 h.n, .int .i64 h.most, sv]

set_option maxHeartbeats 400000 in
theorem checkHall_any (h : Hall) (sv : Value) (w : World) (hs : IsCnts w sv h.cs) :
    Calls Try.prog 20 #[.agg #[.int .i64 h.n, .int .i64 h.most, sv]] w fun e w' => e = .returned (.int .i64 (chk h)) ∧ Ext w w' := by
  obtain ⟨sa, cap, rfl, hl1, hl2, hl3⟩ := hs.spec
  have HS := Lib.hid hs
  clear hs hl3
  go_enter Try.func20, Try.ntmps20
  go_wp2_with fail
  refine (within_any 1 10 _ [h.n] _ (isInts_one (by omega) (by omega) (by simp [go_sem]))).mono ?_
  rintro e W1 ⟨rfl, hb1⟩
  have k0 := cell_ext hb1 (a := ⟨w.heap.size, 0, none⟩) (v := .int .i64 h.n) (by simp [go_sem])
  have k1 := cell_ext hb1 (a := ⟨w.heap.size, 1, none⟩) (v := .int .i64 h.most) (by simp [go_sem])
  have k2 := cell_ext hb1 (a := ⟨w.heap.size, 2, none⟩) (v := .slice sa h.cs.length cap) (by simp [go_sem])
  have hw1 : Ext w W1 := (by repeat (first | exact Below.refl _ _ | refine Ext.al ?_ _ | refine Ext.dr ?_ | refine Ext.drN ?_ _ | refine Ext.gr ?_ _ | refine Ext.set ?_ (by simp) _ | (refine Ext.trans' ?_ (by assumption))))
  clear hb1
  have HW1 := Lib.hid hw1
  clear hw1
  by_cases h1 : 1 ≤ h.n ∧ h.n ≤ 10
  · have h1' : [h.n].all (inR 1 10) = true := by simp [inR]; omega
    by_cases h2 : h.cs.length ≤ 10
    · go_wp2_with fail
      refine (containsFuncCnt h.cs sa cap 65 #[.pointer (some ⟨w.heap.size, 0, none⟩)] (oddC h.n) _ (by omega) ((HS.out.ext HW1.out).opened) (fun args W => Try.call65 args W)
        (fun x _ W hW => checkHall1_any x h.n h1.1 h1.2 _ W (cell_ext hW k0) rfl)).mono ?_
      rintro e W2 ⟨rfl, hb2⟩
      have m1 := cell_ext hb2 k1
      have m2 := cell_ext hb2 k2
      have HW2 := Lib.hid (HW1.out.trans' hb2)
      clear hb2 k0 k1 k2
      cases h3 : h.cs.any (oddC h.n)
      · go_wp2_with fail
        refine (within_any 0 1000000 _ [h.most] _ (isInts_one (by omega) (by omega) (by simp [go_sem]))).mono ?_
        rintro e W3 ⟨rfl, hb3⟩
        have n2 := cell_ext hb3 (a := ⟨w.heap.size, 2, none⟩) (v := .slice sa h.cs.length cap) (by have := World.block_lt_of_cell? _ _ m2; simp [go_sem, m2, this])
        have HW3 := Lib.hid ((HW2.out.al _).trans' hb3)
        clear hb3 m1 m2
        by_cases h4 : 0 ≤ h.most ∧ h.most ≤ 1000000
        · have h4' : [h.most].all (inR 0 1000000) = true := by simp [inR]; omega
          go_wp2_with fail
          refine (containsFuncCnt h.cs sa cap 67 #[] badC _ (by omega) ((HS.out.ext HW3.out).opened) (fun args W => Try.call67 args W)
            (fun x _ W hW => checkHall2_any x W)).mono ?_
          rintro e W4 ⟨rfl, hb4⟩
          have HW4 := Lib.hid (HW3.out.trans' hb4)
          clear hb4
          cases h5 : h.cs.any badC
          all_goals
            go_wp2
            go_ret
            exact ⟨ret_int (by rw [chk_eq]; simp [chk2, h1, h2, h3, h4, h5]), HW4.out⟩
        · have h4' : [h.most].all (inR 0 1000000) = false := by simp [inR]; omega
          go_wp2
          go_ret
          exact ⟨ret_int (by rw [chk_eq]; simp [chk2, h1, h2, h3, h4]), HW3.out⟩
      · go_wp2
        go_ret
        exact ⟨ret_int (by rw [chk_eq]; simp [chk2, h1, h2, h3]), HW2.out⟩
    · go_wp2
      go_ret
      exact ⟨ret_int (by rw [chk_eq]; simp [chk2, h2]), HW1.out⟩
  · have h1' : [h.n].all (inR 1 10) = false := by simp [inR]; omega
    go_wp2
    go_ret
    exact ⟨ret_int (by rw [chk_eq]; simp [chk2, h1]), HW1.out⟩
end Go.Proofs.Ytgcldgchhdjnhaa
namespace Go.Proofs.Ytgcldgchhdjnhaa
open Go.RowKit

set_option maxHeartbeats 400000 in
theorem isRange_any (lo hi most : Int) (w : World) :
    Calls Try.prog 69 #[.agg #[.int .i64 lo, .int .i64 hi], .int .i64 most] w fun e w' => e = .returned (.bool (decide (0 ≤ lo) && decide (lo ≤ hi) && decide (hi ≤ most))) ∧ Ext w w' := by
  go_enter Try.func69, Try.ntmps69
  go_wp2
  all_goals
    go_ret
    exact ⟨ret_bool (by simp [*] <;> (intros; omega)), (by repeat (first | exact Below.refl _ _ | refine Ext.al ?_ _ | refine Ext.dr ?_ | refine Ext.drN ?_ _ | refine Ext.gr ?_ _ | refine Ext.set ?_ (by simp) _ | (refine Ext.trans' ?_ (by assumption))))⟩

def oddR (n : Int) (c : Cnt) : Bool := decide (c.f < 0) || decide (c.t < c.f) || decide (n ≤ c.t)
def badR (c : Cnt) : Bool := !(decide (0 ≤ c.lo) && decide (c.lo ≤ c.hi) && decide (c.hi ≤ 10000000))
theorem any_of_none {α : Type} {p : α → Bool} {l : List α} (h : ∀ x ∈ l, p x = false) : l.any p = false := by simpa using h
theorem any_of_at {α : Type} {p : α → Bool} {l : List α} {k : Nat} (hk : k < l.length) (h : p l[k] = true) : l.any p = true := by
  rw [List.any_eq_true]; exact ⟨_, List.getElem_mem hk, h⟩

theorem chk_two {h : Hall} (g1 : ¬ h.n < 1) (g2 : ¬ 10 < h.n) (g3 : ¬ 10 < h.cs.length) {k : Nat} (hk : k < h.cs.length) (hp : oddR h.n h.cs[k] = true) : 2 = chk h := by
  have := any_of_at hk hp
  unfold oddR at this
  simp [chk, g1, g2, g3, this]
theorem chk_three {h : Hall} (g1 : ¬ h.n < 1) (g2 : ¬ 10 < h.n) (g3 : ¬ 10 < h.cs.length) (hp : h.cs.any (oddR h.n) = false) (g4 : h.most < 0 ∨ 1000000 < h.most) : 3 = chk h := by
  unfold oddR at hp
  simp only [chk]
  rw [if_neg (by omega), hp, if_neg (by simp), if_pos g4]
theorem chk_four {h : Hall} (g1 : ¬ h.n < 1) (g2 : ¬ 10 < h.n) (g3 : ¬ 10 < h.cs.length) (hp : h.cs.any (oddR h.n) = false) (g4 : h.cs.any badR = true) : 3 = chk h := by
  unfold oddR at hp
  unfold badR at g4
  simp only [chk]
  rw [if_neg (by omega), hp, if_neg (by simp), g4, if_pos rfl]
  simp
theorem chk_five {h : Hall} (g1 : ¬ h.n < 1) (g2 : ¬ 10 < h.n) (g3 : ¬ 10 < h.cs.length) (hp : h.cs.any (oddR h.n) = false) (g4 : ¬ (h.most < 0 ∨ 1000000 < h.most)) (g5 : h.cs.any badR = false) : 0 = chk h := by
  unfold oddR at hp
  unfold badR at g5
  simp only [chk]
  rw [if_neg (by omega), hp, if_neg (by simp), if_neg g4, g5, if_neg (by simp)]
set_option maxHeartbeats 1000000 in
theorem checkHallR_any (h : Hall) (sv : Value) (w : World) (hs : IsCnts w sv h.cs) :
    Calls Try.prog 21 #[.agg #[.int .i64 h.n, .int .i64 h.most, sv]] w fun e w' => e = .returned (.int .i64 (chk h)) ∧ Ext w w' := by
  obtain ⟨sa, cap, rfl, hl1, hl2, hl3⟩ := hs.spec
  have HS := Lib.hid hs
  clear hs hl3
  by_cases g1 : h.n < 1
  · go_enter Try.func21, Try.ntmps21
    go_wp2
    go_ret
    exact ⟨ret_int (by simp [chk, g1]), (by repeat (first | exact Below.refl _ _ | refine Ext.al ?_ _ | refine Ext.dr ?_ | refine Ext.drN ?_ _ | refine Ext.gr ?_ _ | refine Ext.set ?_ (by simp) _ | (refine Ext.trans' ?_ (by assumption))))⟩
  by_cases g2 : 10 < h.n
  · go_enter Try.func21, Try.ntmps21
    go_wp2
    go_ret
    exact ⟨ret_int (by simp [chk, g2]), (by repeat (first | exact Below.refl _ _ | refine Ext.al ?_ _ | refine Ext.dr ?_ | refine Ext.drN ?_ _ | refine Ext.gr ?_ _ | refine Ext.set ?_ (by simp) _ | (refine Ext.trans' ?_ (by assumption))))⟩
  by_cases g3 : 10 < h.cs.length
  · have g3' : decide ((10 : Int) < (h.cs.length : Int)) = true := by simp; omega
    go_enter Try.func21, Try.ntmps21
    go_wp2
    go_ret
    exact ⟨ret_int (by simp [chk, g3]), (by repeat (first | exact Below.refl _ _ | refine Ext.al ?_ _ | refine Ext.dr ?_ | refine Ext.drN ?_ _ | refine Ext.gr ?_ _ | refine Ext.set ?_ (by simp) _ | (refine Ext.trans' ?_ (by assumption))))⟩
  have g3' : decide ((10 : Int) < (h.cs.length : Int)) = false := by simp; omega
  go_enter Try.func21, Try.ntmps21
  go_wp2
  go_loopw [3] (fun i W => ∃ k : Nat, k ≤ h.cs.length ∧ i = .int .i64 k ∧ (∀ x ∈ h.cs.take k, oddR h.n x = false) ∧ Ext (w.alloc (.cells #[.int .i64 h.n, .int .i64 h.most, .slice sa h.cs.length cap] 24)) W) (fun i _ => h.cs.length - (intOf i).toNat)
  case atStart => exact ⟨0, Nat.zero_le _, rfl, by simp, Below.refl _ _⟩
  case round =>
    obtain ⟨k, hk, rfl, hno, hb⟩ := hrel
    have HN := Lib.hid hno
    have k0 := cell_ext hb (a := ⟨w.heap.size, 0, none⟩) (v := .int .i64 h.n) (by simp [go_sem])
    have k1 := cell_ext hb (a := ⟨w.heap.size, 1, none⟩) (v := .int .i64 h.most) (by simp [go_sem])
    have k2 := cell_ext hb (a := ⟨w.heap.size, 2, none⟩) (v := .slice sa h.cs.length cap) (by simp [go_sem])
    have hz : w.heap.size < wr.heap.size := World.block_lt_of_cell? _ _ k0
    have HB := Lib.hid hb
    have HX := Lib.hid (Ext.trans' (Ext.al (Below.refl _ w) _) hb)
    clear hno hb
    by_cases hlt : k < h.cs.length
    · rcases (HS.out.ext HX.out).opened with e | ⟨b, off, rfl, hc⟩
      · simp [e] at hlt
      obtain ⟨c0, c1, c2, c3⟩ := hc k hlt
      have hbl : b < wr.heap.size := World.block_lt_of_cell? _ _ c0
      clear hc
      go_wp2
      all_goals first
        | (go_ret; exact ⟨ret_int (chk_two (by omega) (by omega) (by omega) hlt (by simp [oddR]; omega)), Ext.al HX.out _⟩)
        | (go_roundw
           case rel => exact ⟨k + 1, by omega, by go_num, take_ext hlt HN.out (by simp [oddR]; omega), Ext.al HB.out _⟩
           case measure => simp [intOf]; omega)
    · have HN2 := Lib.hid (any_of_none (take_all hlt HN.out))
      clear HN
      by_cases g4 : h.most < 0 ∨ 1000000 < h.most
      · have e4 : (decide (h.most < 0) || decide (1000000 < h.most)) = true := by simpa using g4
        go_wp2
        all_goals
          go_ret
          exact ⟨ret_int (chk_three (by omega) (by omega) (by omega) HN2.out (by omega)), HX.out⟩
      · have e4 : decide (h.most < 0) = false := by simp; omega
        have e5 : decide (1000000 < h.most) = false := by simp; omega
        go_wp2_with fail
        obtain ⟨w0, rfl⟩ : ∃ w0 : World, w0 = wr := ⟨_, rfl⟩
        go_loopw [5] (fun i W => ∃ k : Nat, k ≤ h.cs.length ∧ i = .int .i64 k ∧ (∀ x ∈ h.cs.take k, badR x = false) ∧ Ext w0 W) (fun i _ => h.cs.length - (intOf i).toNat)
        case atStart => exact ⟨0, Nat.zero_le _, rfl, by simp, Below.refl _ _⟩
        case round =>
          obtain ⟨k, hk, rfl, hno, hb⟩ := hrel
          have HN := Lib.hid hno
          replace k2 := cell_ext hb k2
          have HX2 := Lib.hid (Ext.trans' HX.out hb)
          have HB2 := Lib.hid hb
          clear hno hb
          by_cases hlt : k < h.cs.length
          · rcases (HS.out.ext HX2.out).opened with e | ⟨b, off, rfl, hc⟩
            · simp [e] at hlt
            obtain ⟨c0, c1, c2, c3⟩ := hc k hlt
            clear hc
            go_wp2_with fail
            refine (isRange_any h.cs[k].lo h.cs[k].hi 10000000 _).mono ?_
            rintro e W' ⟨rfl, hb'⟩
            cases hp : decide (0 ≤ h.cs[k].lo) && decide (h.cs[k].lo ≤ h.cs[k].hi) && decide (h.cs[k].hi ≤ 10000000)
            · go_wp2
              go_ret
              exact ⟨ret_int (chk_four (by omega) (by omega) (by omega) HN2.out (any_of_at hlt (by simp only [badR, hp]; rfl))), Ext.trans' HX2.out hb'⟩
            · go_wp2
              go_roundw
              case rel => exact ⟨k + 1, by omega, by go_num, take_ext hlt HN.out (by simp only [badR, hp]; rfl), Ext.trans' HB2.out hb'⟩
              case measure => simp [intOf]; omega
          · go_wp2
            go_ret
            exact ⟨ret_int (chk_five (by omega) (by omega) (by omega) HN2.out (by omega) (any_of_none (take_all hlt HN.out))), HX2.out⟩
end Go.Proofs.Ytgcldgchhdjnhaa
