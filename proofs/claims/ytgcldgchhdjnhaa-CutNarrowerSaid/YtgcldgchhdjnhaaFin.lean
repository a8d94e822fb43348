/-
  The walks of the statements' small functions.
  The contracts of Way, Ring, Wrong and Kind, what they ask of plain mathematics paid.
-/
import Derived.Test.YtgcldgchhdjnhaaGrow
import Derived.Test.YtgcldgchhdjnhaaRingsR
import Derived.Test.YtgcldgchhdjnhaaFew
import Derived.Test.YtgcldgchhdjnhaaWay
import Derived.Test.YtgcldgchhdjnhaaMath
namespace Go.Proofs.Ytgcldgchhdjnhaa
open Go.RowKit Go.Shelf

theorem Ext.set {w W : World} (h : Ext w W) {p : Addr} (hp : w.heap.size ≤ p.block) (v : Value) : Ext w (W.setCell p v) := Below.setCell h hp v
/-- rows that were laid just now -/
theorem newRows (w : World) (rows : List (List Value)) (arr : Array Value) (T : TypeId) (b sz : Nat) (hb : b = w.heap.size) (hr : ∀ r ∈ rows, r.length = sz) (ha : arr.toList = rows.flatten) : RowsAt (w.alloc (.cells arr T)) sz b 0 rows := by
  subst hb
  refine flat_rows hr fun j u hj => ?_
  have hg : (w.alloc (.cells arr T)).heap[w.heap.size]? = some (.cells arr T (0, 0)) := by
    show (w.heap.push _)[w.heap.size]? = _
    rw [Array.getElem?_push, if_pos rfl]
  rw [cell_of_row _ _ _ _ _ _ hg, Nat.zero_add, ← Array.getElem?_toList, ha]
  exact hj
/-- a call behind another one: one growth in the place of two -/
theorem callGr2 {P : Program} {f : FuncId} {args : Array Value} {w : World} {g0 : Gr w} {v : Value} {Q : Ending → World → Prop} (h : Calls P f args (grow w g0) fun e w' => e = .returned v ∧ Ext (grow w g0) w') (k : ∀ g, Q (.returned v) (grow w g)) : Calls P f args (grow w g0) Q :=
  h.mono fun e w' ⟨he, hb⟩ => by
    obtain ⟨g, rfl⟩ := grow_of (Ext.trans' (grow_below w g0) hb)
    subst he
    exact k g
def Cnt.val (c : Cnt) : Value := .agg #[.int .i64 c.f, .int .i64 c.t, .int .i64 c.lo, .int .i64 c.hi]
set_option maxHeartbeats 1000000 in
theorem counter_any (f t lo hi : Int) (w : World) :
    Calls Try.prog 50 #[.int .i64 f, .int .i64 t, .int .i64 lo, .int .i64 hi] w fun e w' => e = .returned (.agg #[.int .i64 f, .int .i64 t, .int .i64 lo, .int .i64 hi]) ∧ Ext w w' := by
  go_enter Try.func50, Try.ntmps50
  go_wp2_with fail
  refine bodyPost_ret (v := .agg #[.int .i64 f, .int .i64 t, .int .i64 lo, .int .i64 hi]) (by simp [results, Try.results50, go_sem]) rfl ⟨rfl, (by repeat (first | exact Below.refl _ _ | refine Ext.al ?_ _ | refine Ext.dr ?_ | refine Ext.drN ?_ _ | refine Ext.gr ?_ _ | refine Ext.set ?_ (by simp) _ | (refine Ext.trans' ?_ (by assumption))))⟩
set_option maxHeartbeats 1000000 in
theorem stepC_any (i : Int) (w : World) : Calls Try.prog 61 #[.int .i64 i] w fun e w' => e = .returned (.agg #[.bool false, .int .i64 i, .bool false]) ∧ Ext w w' := by
  go_enter Try.func61, Try.ntmps61
  go_wp2_with fail
  refine bodyPost_ret (v := .agg #[.bool false, .int .i64 i, .bool false]) (by simp [results, Try.results61, go_sem]) rfl ⟨rfl, (by repeat (first | exact Below.refl _ _ | refine Ext.al ?_ _ | refine Ext.dr ?_ | refine Ext.drN ?_ _ | refine Ext.gr ?_ _ | refine Ext.set ?_ (by simp) _ | (refine Ext.trans' ?_ (by assumption))))⟩
set_option maxHeartbeats 1000000 in
theorem stepB_any (i : Int) (w : World) : Calls Try.prog 62 #[.int .i64 i] w fun e w' => e = .returned (.agg #[.bool false, .int .i64 i, .bool true]) ∧ Ext w w' := by
  go_enter Try.func62, Try.ntmps62
  go_wp2_with fail
  refine bodyPost_ret (v := .agg #[.bool false, .int .i64 i, .bool true]) (by simp [results, Try.results62, go_sem]) rfl ⟨rfl, (by repeat (first | exact Below.refl _ _ | refine Ext.al ?_ _ | refine Ext.dr ?_ | refine Ext.drN ?_ _ | refine Ext.gr ?_ _ | refine Ext.set ?_ (by simp) _ | (refine Ext.trans' ?_ (by assumption))))⟩
set_option maxHeartbeats 1000000 in
theorem stepW_any (i : Int) (w : World) : Calls Try.prog 59 #[.int .i64 i] w fun e w' => e = .returned (.agg #[.bool true, .int .i64 i, .bool false]) ∧ Ext w w' := by
  go_enter Try.func59, Try.ntmps59
  go_wp2_with fail
  refine bodyPost_ret (v := .agg #[.bool true, .int .i64 i, .bool false]) (by simp [results, Try.results59, go_sem]) rfl ⟨rfl, (by repeat (first | exact Below.refl _ _ | refine Ext.al ?_ _ | refine Ext.dr ?_ | refine Ext.drN ?_ _ | refine Ext.gr ?_ _ | refine Ext.set ?_ (by simp) _ | (refine Ext.trans' ?_ (by assumption))))⟩
set_option maxHeartbeats 1000000 in
theorem stepV_any (i : Int) (w : World) : Calls Try.prog 60 #[.int .i64 i] w fun e w' => e = .returned (.agg #[.bool true, .int .i64 i, .bool true]) ∧ Ext w w' := by
  go_enter Try.func60, Try.ntmps60
  go_wp2_with fail
  refine bodyPost_ret (v := .agg #[.bool true, .int .i64 i, .bool true]) (by simp [results, Try.results60, go_sem]) rfl ⟨rfl, (by repeat (first | exact Below.refl _ _ | refine Ext.al ?_ _ | refine Ext.dr ?_ | refine Ext.drN ?_ _ | refine Ext.gr ?_ _ | refine Ext.set ?_ (by simp) _ | (refine Ext.trans' ?_ (by assumption))))⟩
set_option maxHeartbeats 1000000 in
theorem wayL_any (v : Value) (w : World) : Calls Try.prog 58 #[v] w fun e w' => e = .returned v ∧ Ext w w' := by
  go_enter Try.func58, Try.ntmps58
  go_wp2_with fail
  go_ret
  exact ⟨rfl, Below.refl _ _⟩
set_option maxHeartbeats 1000000 in
theorem great_any (h : Hall) (sv : Value) (w : World) (hs : IsCnts w sv h.cs) :
    Calls Try.prog 17 #[.agg #[.int .i64 h.n, .int .i64 h.most, sv]] w fun e w' => e = .returned (.bool (decide (20 < h.cs.length))) ∧ Ext w w' := by
  obtain ⟨sa, cap, rfl, hl1, hl2, -⟩ := hs.spec
  clear hs
  go_enter Try.func17, Try.ntmps17
  go_wp2_with fail
  go_ret
  exact ⟨ret_bool (by simp; omega), (by repeat (first | exact Below.refl _ _ | refine Ext.al ?_ _ | refine Ext.dr ?_ | refine Ext.drN ?_ _ | refine Ext.gr ?_ _ | refine Ext.set ?_ (by simp) _ | (refine Ext.trans' ?_ (by assumption))))⟩
set_option maxHeartbeats 1000000 in
theorem isRingL_any (h : Hall) (sv lv : Value) (l : List Stp) (w : World) (hs : IsCnts w sv h.cs) (hl : IsStps w lv l) :
    Calls Try.prog 38 #[.agg #[.int .i64 h.n, .int .i64 h.most, sv], lv] w fun e w' => e = .returned (.bool (ringsErrR h [l] == 0)) ∧ Ext w w' := by
  obtain ⟨sa, cap, rfl, hl1, hl2, -⟩ := hs.spec
  obtain ⟨la, lcap, rfl, hm1, hm2, -⟩ := hl.spec
  have HS := Lib.hid hs
  have HL := Lib.hid hl
  clear hs hl
  go_enter Try.func38, Try.ntmps38
  go_wp2_with fail
  refine callGr (checkRingsR_any h _ _ [(.slice la l.length lcap, l)] _ (HS.out.ext (by exact (by repeat (first | exact Below.refl _ _ | refine Ext.al ?_ _ | refine Ext.dr ?_ | refine Ext.drN ?_ _ | refine Ext.gr ?_ _ | refine Ext.set ?_ (by simp) _ | (refine Ext.trans' ?_ (by assumption)))))) ⟨⟨_, 1, rfl, by simp, by omega, .inr ⟨_, 0, rfl, newRowAt _ [.slice la l.length lcap] _ _ _ (by simp) rfl⟩⟩, fun x hx => ?_⟩) fun g => ?_
  · simp only [List.mem_singleton] at hx
    subst hx
    exact HL.out.ext (by exact (by repeat (first | exact Below.refl _ _ | refine Ext.al ?_ _ | refine Ext.dr ?_ | refine Ext.drN ?_ _ | refine Ext.gr ?_ _ | refine Ext.set ?_ (by simp) _ | (refine Ext.trans' ?_ (by assumption)))))
  simp only [List.map_cons, List.map_nil]
  obtain ⟨E, hE⟩ : ∃ E, E = ringsErrR h [l] := ⟨_, rfl⟩
  rw [← hE]
  have HE := Lib.hid hE
  clear hE
  go_wp2_with fail
  go_ret
  exact ⟨ret_bool (by rw [HE.out]), (by repeat (first | exact Below.refl _ _ | refine Ext.al ?_ _ | refine Ext.dr ?_ | refine Ext.drN ?_ _ | refine Ext.gr ?_ _ | refine Ext.set ?_ (by simp) _ | (refine Ext.trans' ?_ (by assumption))))⟩
set_option maxRecDepth 100000 in
set_option maxHeartbeats 1000000 in
theorem ints_any (a b : List Int) (av bv : Value) (w : World) (ha : IsInts w .i64 av a) (hb : IsInts w .i64 bv b) :
    Calls Try.prog 45 #[av, bv] w fun e w' => e = .returned (.bool (decide (a = b))) ∧ Ext w w' := by
  obtain ⟨sa, cap, rfl, hl1, hl2, h1⟩ := ha.spec
  obtain ⟨sb, capb, rfl, hm1, hm2, h2⟩ := hb.spec
  clear ha hb
  by_cases hl : a.length = b.length
  · have hl' : ((a.length : Int) == (b.length : Int)) = true := by rw [hl]; exact beq_self_eq_true _
    have HL := Lib.hid hl
    clear hl
    go_enter Try.func45, Try.ntmps45
    go_wp2_with fail
    go_loopw [5] (fun i W => ∃ k : Nat, k ≤ a.length ∧ i = .int .i64 k ∧ a.take k = b.take k ∧ Ext w W) (fun i _ => a.length - (intOf i).toNat)
    case atStart => exact ⟨0, Nat.zero_le _, rfl, by simp, Below.refl _ _⟩
    case round =>
      obtain ⟨k, hk, rfl, heq, hE⟩ := hrel
      have HEQ := Lib.hid heq
      have HE := Lib.hid hE
      by_cases hlt : k < a.length
      · have hltb : k < b.length := by have := HL.out; omega
        rcases h1 with h1 | ⟨ab, ao, rfl, hc1⟩
        · rw [h1] at hlt; simp at hlt
        rcases h2 with h2 | ⟨bb, bo, rfl, hc2⟩
        · rw [h2] at hltb; simp at hltb
        have c1 := cell_ext hE (hc1 k hlt)
        have c2 := cell_ext hE (hc2 k hltb)
        obtain ⟨x, hx⟩ : ∃ x, x = a[k] := ⟨_, rfl⟩
        obtain ⟨y, hy⟩ : ∃ y, y = b[k] := ⟨_, rfl⟩
        rw [← hx] at c1
        rw [← hy] at c2
        have HX := Lib.hid hx
        have HY := Lib.hid hy
        clear hc1 hc2 heq hE hl' hx hy
        by_cases hxy : x = y
        · have hxy' : (x == y) = true := by simpa using hxy
          have HXY := Lib.hid hxy
          clear hxy
          go_wp2_with fail
          go_quiet (fail)
          go_wp2_with fail
          go_roundw
          case rel =>
            refine ⟨k + 1, by omega, by go_num, ?_, HE.out.drN _⟩
            rw [List.take_succ_eq_append_getElem hlt, List.take_succ_eq_append_getElem hltb, HEQ.out, ← HX.out, ← HY.out, HXY.out]
          case measure => simp [intOf]; omega
        · have hxy' : (x == y) = false := by simpa using hxy
          have HXY := Lib.hid hxy
          clear hxy
          go_wp2_with fail
          go_quiet (fail)
          go_wp2_with fail
          go_ret
          refine ⟨ret_bool ?_, HE.out.drN _⟩
          symm
          refine decide_eq_false fun e => HXY.out ?_
          rw [HX.out, HY.out]
          exact List.getElem_of_eq e _
      · obtain rfl : k = a.length := by omega
        clear heq hE hl'
        go_wp2_with fail
        go_ret
        refine ⟨ret_bool ?_, HE.out⟩
        symm
        refine decide_eq_true ?_
        have := HEQ.out
        rw [List.take_length, HL.out, List.take_length] at this
        exact this
  · have hl' : ((a.length : Int) == (b.length : Int)) = false := by simp; omega
    have HL := Lib.hid hl
    clear hl
    go_enter Try.func45, Try.ntmps45
    go_wp2_with fail
    go_ret
    refine ⟨ret_bool ?_, Below.refl _ _⟩
    symm
    exact decide_eq_false fun e => HL.out (by rw [e])

def hallX (lo hi : Int) : Hall := ⟨3, 100, [⟨0, 1, 10, 12⟩, ⟨1, 2, 20, 22⟩, ⟨0, 2, lo, hi⟩]⟩
def hallK : Hall := ⟨2, 9, [⟨0, 0, 5, 5⟩, ⟨0, 0, 7, 7⟩, ⟨0, 0, 7, 7⟩]⟩
/-- a hall that is returned -/
def RetHall (h : Hall) (w : World) (e : Ending) (w' : World) : Prop := ∃ sv, e = .returned (.agg #[.int .i64 h.n, .int .i64 h.most, sv]) ∧ Ext w w' ∧ IsCnts w' sv h.cs
set_option maxRecDepth 100000 in
set_option maxHeartbeats 1000000 in
theorem hall_any (lo hi : Int) (w : World) : Calls Try.prog 56 #[.int .i64 lo, .int .i64 hi] w (RetHall (hallX lo hi) w) := by
  go_enter Try.func56, Try.ntmps56
  go_wp2_with fail
  refine callGr (counter_any _ _ _ _ _) fun g => ?_
  go_wp2_with fail
  refine callGr2 (counter_any _ _ _ _ _) fun g => ?_
  go_wp2_with fail
  refine callGr2 (counter_any _ _ _ _ _) fun g => ?_
  go_wp2_with fail
  refine bodyPost_ret (v := .agg #[.int .i64 3, .int .i64 100, .slice (some ⟨(grow (w.alloc (.cells #[.int .i64 0, .int .i64 0, .slice none 0 0] 24)) g).heap.size, 0, none⟩) 3 3]) (by simp [results, Try.results56, go_sem]) rfl ?_
  refine ⟨_, rfl, (by repeat (first | exact Below.refl _ _ | refine Ext.al ?_ _ | refine Ext.dr ?_ | refine Ext.drN ?_ _ | refine Ext.gr ?_ _ | refine Ext.set ?_ (by simp) _ | (refine Ext.trans' ?_ (by assumption)))), ⟨_, 3, rfl, by simp [hallX], by omega, .inr ⟨_, 0, rfl, ?_⟩⟩⟩
  exact newRows _ ((hallX lo hi).cs.map Cnt.cells) _ _ _ 4 (by simp) (by simp [hallX, Cnt.cells]) (by simp [hallX, Cnt.cells])

set_option maxRecDepth 100000 in
set_option maxHeartbeats 1000000 in
theorem three_any (w : World) : Calls Try.prog 57 #[] w (RetHall hallK w) := by
  go_enter Try.func57, Try.ntmps57
  go_wp2_with fail
  refine callGr (counter_any _ _ _ _ _) fun g => ?_
  go_wp2_with fail
  refine callGr2 (counter_any _ _ _ _ _) fun g => ?_
  go_wp2_with fail
  refine callGr2 (counter_any _ _ _ _ _) fun g => ?_
  go_wp2_with fail
  refine bodyPost_ret (v := .agg #[.int .i64 2, .int .i64 9, .slice (some ⟨(grow (w.alloc (.cells #[.int .i64 0, .int .i64 0, .slice none 0 0] 24)) g).heap.size, 0, none⟩) 3 3]) (by simp [results, Try.results57, go_sem]) rfl ?_
  refine ⟨_, rfl, (by repeat (first | exact Below.refl _ _ | refine Ext.al ?_ _ | refine Ext.dr ?_ | refine Ext.drN ?_ _ | refine Ext.gr ?_ _ | refine Ext.set ?_ (by simp) _ | (refine Ext.trans' ?_ (by assumption)))), ⟨_, 3, rfl, by decide, by omega, .inr ⟨_, 0, rfl, ?_⟩⟩⟩
  exact newRows _ (hallK.cs.map Cnt.cells) _ _ _ 4 (by simp) (by simp [hallK, Cnt.cells]) (by simp [hallK, Cnt.cells])
end Go.Proofs.Ytgcldgchhdjnhaa
namespace Go.Proofs.Ytgcldgchhdjnhaa
open Go.RowKit Go.Shelf

/-- the way that is returned -/
def WayOk (h : Hall) (f t : Int) (l : List Stp) : Prop :=
  (wayErr h f t = 0 → IsW h f l t ∧ (l.map (cost h)).sum = (leastM h f.toNat).1.sums t.toNat ∧ l.length ≤ 11) ∧ (wayErr h f t ≠ 0 → l = [])
def RingR (h : Hall) (l : List Stp) : Prop := (ringErr h = 0 → isRingM h l = true ∧ (∀ x ∈ l, okStp h x = true) ∧ l.length ≤ 12) ∧ (ringErr h ≠ 0 → l = [])
def RetWay (h : Hall) (f t : Int) (w : World) (e : Ending) (w' : World) : Prop := ∃ v l, e = .returned (.tuple #[v, .int .i64 (wayErr h f t)]) ∧ Ext w w' ∧ IsStps w' v l ∧ WayOk h f t l
def RetRing (h : Hall) (w : World) (e : Ending) (w' : World) : Prop := ∃ v l, e = .returned (.tuple #[v, .int .i64 (ringErr h)]) ∧ Ext w w' ∧ IsStps w' v l ∧ RingR h l
def RetWrong (h : Hall) (w : World) (e : Ending) (w' : World) : Prop := ∃ v, e = .returned (.tuple #[v, .int .i64 (chk h)]) ∧ Ext w w' ∧ IsInts w' .i64 v (wrongL h)
def RetTruth (h : Hall) (w : World) (e : Ending) (w' : World) : Prop := ∃ v, e = .returned (.tuple #[v, .int .i64 (truthErr h)]) ∧ Ext w w' ∧ IsInts w' .i64 v (truthL h)
theorem backs_len' (s : WSt) (K a : Nat) : (backs s K a).length = K := backs_len s K a
theorem wayErr_ok {h : Hall} {f t : Int} (e : wayErr h f t = 0) : Valid h ∧ 0 ≤ f ∧ f ≤ h.n ∧ 0 ≤ t ∧ t ≤ h.n ∧ (leastM h f.toNat).2 = true := by
  unfold wayErr at e
  by_cases ho : openE h [f, t] = 0
  · rw [if_neg (fun hh => hh ho)] at e
    obtain ⟨h1, h2, h3, h4, h5⟩ := open_places ho
    refine ⟨valid_of_chk h1, h2, h3, h4, h5, ?_⟩
    cases hl : (leastM h f.toNat).2 with
    | true => rfl
    | false => rw [hl] at e; simp at e
  · rw [if_pos ho] at e; exact absurd e ho
theorem way_fin (h : Hall) (sv : Value) (f t : Int) (w : World) (hs : IsCnts w sv h.cs) :
    Calls Try.prog 30 #[.agg #[.int .i64 h.n, .int .i64 h.most, sv], .int .i64 f, .int .i64 t] w (RetWay h f t w) := by
  refine (wayP_any h sv f t w hs fun e => ?_).mono ?_
  · obtain ⟨v, a1, a2, a3, a4, a5⟩ := wayErr_ok e
    obtain ⟨K, hK, hc, _⟩ := (leastM_low v (st := f.toNat) (by omega) a5).chain t.toNat (by omega)
    exact ⟨K, by omega, hc⟩
  · rintro e w' ⟨v, l, h1, h2, h3, h4, h5⟩
    refine ⟨v, l, h1, h2, h3, fun e => ?_, h5⟩
    obtain ⟨vv, a1, a2, a3, a4, a5⟩ := wayErr_ok e
    obtain ⟨K, hK, hc, rfl⟩ := h4 e
    obtain ⟨K', hK', hc', hw, hsum⟩ := (leastM_low vv (st := f.toNat) (by omega) a5).chain t.toNat (by omega)
    obtain rfl := chain_uniq hc hc'
    rw [Int.toNat_of_nonneg a1, Int.toNat_of_nonneg a3] at hw
    exact ⟨hw, hsum, by rw [List.length_reverse, backs_len]; exact hK'⟩
theorem ringErr_ok {h : Hall} (e : ringErr h = 0) : Valid h ∧ (leastM h 0).2 = false := by
  unfold ringErr at e
  by_cases hc : chk h = 0
  · rw [if_neg (fun hh => hh hc)] at e
    refine ⟨valid_of_chk hc, ?_⟩
    cases hl : (leastM h 0).2 with
    | false => rfl
    | true => rw [hl] at e; simp at e
  · rw [if_pos hc] at e; exact absurd e hc
theorem ring_fin (h : Hall) (sv : Value) (w : World) (hs : IsCnts w sv h.cs) :
    Calls Try.prog 36 #[.agg #[.int .i64 h.n, .int .i64 h.most, sv]] w (RetRing h w) := by
  refine (ringP_any h sv w hs fun e => ?_).mono ?_
  · obtain ⟨v, hl⟩ := ringErr_ok e
    exact (leastM_ring v hl).1
  · rintro e w' ⟨v, l, h1, h2, h3, h4, h5⟩
    refine ⟨v, l, h1, h2, h3, fun e => ?_, h5⟩
    obtain ⟨vv, hl⟩ := ringErr_ok e
    obtain ⟨K, hK, hc, rfl⟩ := h4 e
    obtain ⟨hK', hr, hok⟩ := (leastM_ring vv hl).2 K hc
    exact ⟨hr, hok, by rw [List.length_reverse, ringBack, List.length_cons, backs_len]; omega⟩
theorem wrong_fin (h : Hall) (sv : Value) (w : World) (hs : IsCnts w sv h.cs) :
    Calls Try.prog 39 #[.agg #[.int .i64 h.n, .int .i64 h.most, sv]] w (RetWrong h w) := wrong_any h sv w hs fun hc => fewestM_ne (valid_of_chk hc)
theorem kind_fin (h : Hall) (sv : Value) (c : Int) (w : World) (hs : IsCnts w sv h.cs) :
    Calls Try.prog 43 #[.agg #[.int .i64 h.n, .int .i64 h.most, sv], .int .i64 c] w fun e w' =>
      e = .returned (.tuple #[.int .i64 (kindN h c), .int .i64 (kindErr h c)]) ∧ Ext w w' := kind_any h sv c w hs fun hc => fewestM_ne (valid_of_chk hc)
theorem truth_fin (h : Hall) (sv : Value) (w : World) (hs : IsCnts w sv h.cs) :
    Calls Try.prog 19 #[.agg #[.int .i64 h.n, .int .i64 h.most, sv]] w (RetTruth h w) := truth_any h sv w hs

/-- a call at a world that W0 has grown to -/
theorem callW {P : Program} {f : FuncId} {args : Array Value} {W0 W : World} {g : Gr W0} {v : Value} {Q : Ending → World → Prop} (hW : Ext (grow W0 g) W) (h : Calls P f args W fun e w' => e = .returned v ∧ Ext W w')
    (k : ∀ g', Ext (grow W0 g) (grow W0 g') → Q (.returned v) (grow W0 g')) : Calls P f args W Q :=
  h.mono fun e w' ⟨he, hb⟩ => by
    have h1 := hW.trans' hb
    obtain ⟨g', rfl⟩ := grow_of (Ext.trans' (grow_below W0 g) h1)
    subst he
    exact k g' h1
theorem callWR {P : Program} {f : FuncId} {args : Array Value} {W0 W : World} {g : Gr W0} {Q : Ending → World → Prop} {R : Ending → World → Prop} (hW : Ext (grow W0 g) W) (h : Calls P f args W R) (hR : ∀ e w', R e w' → Ext W w')
    (k : ∀ e g', Ext (grow W0 g) (grow W0 g') → R e (grow W0 g') → Q e (grow W0 g')) : Calls P f args W Q :=
  h.mono fun e w' hr => by
    have h1 := hW.trans' (hR e w' hr)
    obtain ⟨g', rfl⟩ := grow_of (Ext.trans' (grow_below W0 g) h1)
    exact k e g' h1 hr
theorem RetWay.ext {h : Hall} {f t : Int} {w w' : World} {e : Ending} (r : RetWay h f t w e w') : Ext w w' := by obtain ⟨_, _, _, h, _⟩ := r; exact h
theorem RetRing.ext {h : Hall} {w w' : World} {e : Ending} (r : RetRing h w e w') : Ext w w' := by obtain ⟨_, _, _, h, _⟩ := r; exact h
theorem RetWrong.ext {h : Hall} {w w' : World} {e : Ending} (r : RetWrong h w e w') : Ext w w' := by obtain ⟨_, _, h, _⟩ := r; exact h
theorem RetTruth.ext {h : Hall} {w w' : World} {e : Ending} (r : RetTruth h w e w') : Ext w w' := by obtain ⟨_, _, h, _⟩ := r; exact h
theorem RetHall.ext {h : Hall} {w w' : World} {e : Ending} (r : RetHall h w e w') : Ext w w' := by obtain ⟨_, _, h, _⟩ := r; exact h
end Go.Proofs.Ytgcldgchhdjnhaa
