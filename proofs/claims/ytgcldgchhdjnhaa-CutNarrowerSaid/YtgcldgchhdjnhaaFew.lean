/-
  The walks of pick and fewest: all lists of the fewest counters that can be wrong.
  The walks of fewest, Wrong and Lists.
  The walks of slices.Clone and of Kind.
-/
import Derived.Test.YtgcldgchhdjnhaaPick
import Derived.Test.YtgcldgchhdjnhaaDel
import Derived.Test.YtgcldgchhdjnhaaWay
import Derived.WalkMore
namespace Go.Proofs.Ytgcldgchhdjnhaa
open Go.RowKit Go.Shelf

set_option maxHeartbeats 1000000 in
theorem delete_nil (f : Nat) (cs : Array Value) (w : World) (hcall : ∀ args W, (callFunc f args).run Try.prog W = .ok (.enter f args) W) :
    Calls Try.prog 90 #[.slice none 0 0, .func (.func f) #[] cs] w fun e w' => e = .returned (.slice none 0 0) ∧ Ext w w' := by
  have H := Lib.hid (indexFuncLst [] none 0 f cs (fun _ => false) w (by simp) (.inl rfl) hcall (fun x hx => by cases hx))
  go_enter Try.func90, Try.ntmps90
  go_wp2_with fail
  refine callGr H.out fun g0 => ?_
  have hfx : fidx (fun _ => false) ([] : List (Value × List Int)) = -1 := by simp [fidx]
  rw [hfx]
  clear hfx
  go_wp2_with fail
  go_ret
  exact ⟨rfl, grow_below w g0⟩
theorem delete_any (ps : List (Value × List Int)) (v : Value) (f : Nat) (cs : Array Value) (p : (Value × List Int) → Bool) (B : Nat) (w : World) (hv : LL w B v ps)
    (hcall : ∀ args W, (callFunc f args).run Try.prog W = .ok (.enter f args) W)
    (hf : ∀ x, x ∈ ps → ∀ W, Kept (fun k => some k ≠ v.ownBlock) w W → Calls Try.prog f (#[x.1] ++ cs) W fun e W' => e = .returned (.bool (p x)) ∧ Ext W W') :
    Calls Try.prog 90 #[v, .func (.func f) #[] cs] w fun e w' =>
      ∃ v', e = .returned v' ∧ Kept (fun k => some k ≠ v.ownBlock) w w' ∧ LL w' B v' (ps.filter fun x => !p x) := by
  have hll : (ps.map fun x => [x.1]).length = ps.length := by simp
  obtain ⟨sa, cap, rfl, _, _, h3⟩ := hv.own.form
  rw [hll] at hv hf ⊢
  rcases h3 with ⟨h1, rfl, rfl⟩ | ⟨g, rfl, _⟩
  · rw [List.map_eq_nil_iff] at h1
    subst h1
    refine (delete_nil f cs w hcall).mono ?_
    rintro e w' ⟨rfl, he⟩
    exact ⟨_, rfl, Kept.of_below he, LL.nil _ _⟩
  · rw [ownBlock_some] at hf ⊢
    exact delete_some ps g cap f cs p B w hv hcall hf

set_option maxHeartbeats 1000000 in
theorem pick2_any (h : Hall) (sv lv : Value) (v : Valid h) (l : List Int) (b r : Nat) (a : Addr) (w : World) (hs : SheetAt w b r h sv) (hl : IsInts w .i64 lv l) (ha : w.cell? a = some (.func (.func 105) #[.pointer (some ⟨b, 0, none⟩)] #[])) (has : a.spot = none) :
    Calls Try.prog 114 #[lv, .pointer (some a)] w fun e w' => e = .returned (.bool (!(leastM (wo h l) 0).2)) ∧ Ext w w' := by
  obtain ⟨ab, ao, sp⟩ := a
  obtain rfl : sp = none := has
  have hcall := fun args W => Try.call105 args W
  have H := Lib.hid (agree_any h sv lv v l b r w hs hl)
  clear hs hl
  go_enter Try.func114, Try.ntmps114
  go_wp2_with fail
  refine callGr H.out fun g => ?_
  go_wp2_with fail
  go_ret
  exact ⟨rfl, grow_below w g⟩

theorem LL.mapFilter {ps : List (Value × List Int)} (q : List Int → Bool) : (ps.filter fun x => q x.2).map (·.2) = (ps.map (·.2)).filter q := by
  rw [List.filter_map]; rfl

theorem ll_first (w : World) (B : Nat) (hB : B ≤ w.heap.size) : LL (w.alloc (.cells #[.slice none 0 0] 56)) B (.slice (some ⟨w.heap.size, 0, none⟩) 1 1) [(.slice none 0 0, [])] := by
  refine ⟨⟨⟨by simp, .inr ⟨w.heap.size, 1, #[.slice none 0 0], rfl, hB, ?_, by simp, by simp [maxLen], rfl, by simp⟩⟩, one_rows⟩, fun x hx => ?_⟩
  · show (w.heap.push _)[w.heap.size]? = _
    rw [Array.getElem?_push, if_pos rfl]
  · simp only [List.mem_singleton] at hx
    subst hx
    exact Owns.nil _ _ _ _
theorem flat_take_le {α β : Type} (f : α → List β) (l : List α) : ∀ k, ((l.take k).flatMap f).length ≤ (l.flatMap f).length := fun k => by
  have : (l.take k ++ l.drop k).flatMap f = l.flatMap f := by rw [List.take_append_drop]
  rw [← this, List.flatMap_append, List.length_append]
  omega
set_option maxRecDepth 100000 in
set_option maxHeartbeats 2000000 in
theorem pick_any (h : Hall) (sv : Value) (v : Valid h) (k : Nat) (hk : k ≤ h.cs.length) (b r : Nat) (w : World) (hs : SheetAt w b r h sv) :
    Calls Try.prog 106 #[.int .i64 k, .int .i64 h.cs.length, .func (.func 105) #[.pointer (some ⟨b, 0, none⟩)] #[]] w (LLs w.heap.size (pickM h k) w) := by
  have hlen := v.len
  have HS := Lib.hid hs
  have V := Lib.hid v
  clear hs v
  have hcall := fun args W => Try.call113 args W
  have hcall2 := fun args W => Try.call114 args W
  go_enter Try.func106, Try.ntmps106
  go_wp2_with fail
  have hinit := ll_first ((w.alloc (Obj.cells #[.int .i64 h.cs.length] 3)).alloc (Obj.cells #[.func (.func 105) #[.pointer (some ⟨b, 0, none⟩)] #[]] 126)) (w.heap.size + 2) (by simp)
  simp only [World.size_alloc] at hinit
  have HIN := Lib.hid hinit
  clear hinit
  go_loopw [7, 10] (fun all i W => ∃ (j : Nat) (ps : List (Value × List Int)), j ≤ k ∧ i = .int .i64 j ∧ Ext w W ∧ W.cell? ⟨w.heap.size, 0, none⟩ = some (.int .i64 h.cs.length) ∧ W.cell? ⟨w.heap.size + 1, 0, none⟩ = some (.func (.func 105) #[.pointer (some ⟨b, 0, none⟩)] #[]) ∧
    LL W (w.heap.size + 2) all ps ∧ ps.map (·.2) = incs h.cs.length j) (fun _ i _ => k - (intOf i).toNat)
  case atStart => exact ⟨0, [(.slice none 0 0, [])], by omega, rfl, (by repeat (first | exact Below.refl _ _ | refine Ext.al ?_ _ | refine Ext.dr ?_ | refine Ext.drN ?_ _ | refine Ext.gr ?_ _ | refine Ext.set ?_ (by simp) _ | (refine Ext.trans' ?_ (by assumption)))), by simp [go_sem], by simp [go_sem], HIN.out, rfl⟩
  case round =>
    obtain ⟨j, ps, hj, rfl, hE, k0, k1, hLL, hps⟩ := hrel
    have HE := Lib.hid hE
    have HLL := Lib.hid hLL
    have HPS := Lib.hid hps
    have hsz := hE.size
    have hz1 : w.heap.size + 1 < wr.heap.size := World.block_lt_of_cell? _ _ k1
    by_cases hlt : j < k
    · clear hE hLL hps
      go_wp2_with fail
      refine (spread_any ps _ h.cs.length (by omega) (w.heap.size + 2) ⟨w.heap.size, 0, none⟩ wr (fun x hx => incs_inc (by omega) j x.2 (by rw [← HPS.out]; exact List.mem_map_of_mem hx)) HLL.out k0 rfl ?_).mono ?_
      · rw [HPS.out]
        exact incs_len (n := h.cs.length) (by omega) (j + 1)
      rintro e W1 ⟨v1, qs, rfl, hE1, hLL1, hq1⟩
      have k0' := cell_ext hE1 k0
      have k1' := cell_ext hE1 k1
      have HE1 := Lib.hid hE1
      have HLL1 := Lib.hid (hLL1.base (B' := w.heap.size + 2) (by omega))
      have HQ := Lib.hid (hq1.trans (by rw [HPS.out]; rfl : _ = incs h.cs.length (j + 1)))
      clear hE1 hLL1 hq1 k0 k1
      go_wp2_with fail
      go_roundw
      case rel => exact ⟨j + 1, qs, by omega, by go_num, HE.out.trans' HE1.out, k0', k1', HLL1.out, HQ.out⟩
      case measure => simp [intOf]; omega
    · obtain rfl : j = k := by omega
      obtain ⟨sa1, n1, cap1, rfl⟩ := hLL.own.isSlice
      have hSA : Hid (∀ W, Kept (fun k => some k ≠ (Value.slice sa1 n1 cap1).ownBlock) wr W → Ext w W ∧ W.cell? ⟨w.heap.size + 1, 0, none⟩ = some (.func (.func 105) #[.pointer (some ⟨b, 0, none⟩)] #[])) := Lib.hid fun W hW => by
        have hb := hLL.own.keptBelow (by omega) hW
        exact ⟨hE.trans (hb.mono (by omega)), (hb.cell (p := ⟨w.heap.size + 1, 0, none⟩) (by show w.heap.size + 1 < _; omega)).trans k1⟩
      have hf : ∀ x, x ∈ ps → ∀ W, Kept (fun k => some k ≠ (Value.slice sa1 n1 cap1).ownBlock) wr W → Calls Try.prog 114 #[x.1, .pointer (some ⟨w.heap.size + 1, 0, none⟩)] W fun e W' => e = .returned (.bool (!(leastM (wo h x.2) 0).2)) ∧ Ext W W' := fun x hx W hW => by
        obtain ⟨e1, e2⟩ := hSA.out W hW
        exact pick2_any h sv x.1 V.out x.2 b r _ W (HS.out.ext e1) (((HLL.out.each x hx).keep (by decide) HLL.out.own hW).oneInts) e2 rfl
      have hdel := delete_any ps (.slice sa1 n1 cap1) 114 #[.pointer (some ⟨w.heap.size + 1, 0, none⟩)] (fun x => !(leastM (wo h x.2) 0).2) (w.heap.size + 2) wr HLL.out hcall2 hf
      have HDEL := Lib.hid hdel
      clear hE hLL hps k0 k1 hf hdel
      go_wp2_with fail
      refine HDEL.out.mono ?_
      rintro e W1 ⟨v1, rfl, hK1, hLL1⟩
      have HE1 := Lib.hid (hSA.out W1 hK1).1
      have HLL1 := Lib.hid hLL1
      clear hK1 hLL1
      go_wp2_with fail
      go_ret
      refine ⟨v1, _, rfl, HE1.out, HLL1.out.base (by omega), ?_⟩
      simp only [Bool.not_not]
      rw [LL.mapFilter (fun l => (leastM (wo h l) 0).2), HPS.out]
      rfl
end Go.Proofs.Ytgcldgchhdjnhaa
namespace Go.Proofs.Ytgcldgchhdjnhaa
open Go.RowKit Go.Shelf

theorem fewM_step {h : Hall} {j k : Nat} (e : (pickM h k).isEmpty = true) : fewM h (j + 1) k = fewM h j (k + 1) := by rw [fewM, if_pos e]
theorem fewM_stop {h : Hall} {j k : Nat} (e : (pickM h k).isEmpty = false) : fewM h (j + 1) k = pickM h k := by rw [fewM, if_neg (by simp [e])]
set_option maxRecDepth 100000 in
set_option maxHeartbeats 2000000 in
theorem fewest_any (h : Hall) (sv : Value) (v : Valid h) (b r : Nat) (w : World) (hs : SheetAt w b r h sv) :
    Calls Try.prog 87 #[.pointer (some ⟨b, 0, none⟩)] w (LLs w.heap.size (fewestM h) w) := by
  obtain ⟨ca, ccap, rfl, hm1, hm2, -⟩ := hs.cs.spec
  have hlen := v.len
  have c2 := hs.c2
  have hbw : b < w.heap.size := World.block_lt_of_cell? _ _ c2
  have HS := Lib.hid hs
  have V := Lib.hid v
  clear hs v
  go_enter Try.func87, Try.ntmps87
  go_wp2_with fail
  go_step3
  go_wp2_with fail
  go_step3
  go_wp2_with fail
  go_loopw [3, 15] (fun out i W => ∃ j : Nat, j ≤ h.cs.length + 1 ∧ i = .int .i64 j ∧ fewM h (h.cs.length + 1 - j) j = fewestM h ∧ Ext w W ∧ LL W w.heap.size out []) (fun _ i _ => h.cs.length + 1 - (intOf i).toNat)
  case atStart => exact ⟨0, by omega, rfl, rfl, Below.refl _ _, LL.nil _ _⟩
  case round =>
    obtain ⟨j, hj, rfl, hf, hE, hLL⟩ := hrel
    have c2' := cell_ext hE c2
    have HE := Lib.hid hE
    have HLL := Lib.hid hLL
    have HFW := Lib.hid hf
    have hsz := hE.size
    by_cases hlt : j < h.cs.length + 1
    · clear hE hLL hf
      go_wp2_with fail
      refine (pick_any h _ V.out j (by omega) b r _ (HS.out.ext HE.out)).mono ?_
      rintro e W1 ⟨v1, qs, rfl, hE1, hLL1, hq1⟩
      obtain ⟨sa1, n1, cap1, rfl⟩ := hLL1.own.isSlice
      obtain ⟨hn1, -⟩ := hLL1.own.src
      rw [List.length_map] at hn1
      have hql : qs.length = (pickM h j).length := by rw [← hq1]; simp
      have HE1 := Lib.hid (HE.out.trans' hE1)
      have HLL1 := Lib.hid (hLL1.base (B' := w.heap.size) hsz)
      have HQ := Lib.hid hq1
      cases he : (pickM h j).isEmpty
      · have h1 : 0 < n1 := by
          rw [hn1, hql]
          rcases hp : pickM h j with _ | ⟨x, l⟩
          · rw [hp] at he; cases he
          · simp
        have h1' : decide ((0 : Int) < (n1 : Int)) = true := decide_eq_true (by omega)
        have HE2 := Lib.hid he
        clear hE1 hLL1 hq1 hql hn1 he
        go_wp2_with fail
        go_ret
        refine ⟨_, qs, rfl, HE1.out, HLL1.out, ?_⟩
        have e2 : h.cs.length + 1 - j = (h.cs.length - j) + 1 := by omega
        rw [HQ.out, ← HFW.out, e2, fewM_stop HE2.out]
      · have h1 : n1 = 0 := by
          rw [hn1, hql]
          rw [List.isEmpty_iff.1 he]; rfl
        subst h1
        have hq0 : qs = [] := List.eq_nil_of_length_eq_zero hn1.symm
        subst hq0
        have HE2 := Lib.hid he
        clear hE1 hLL1 hq1 hql hn1 he
        go_wp2_with fail
        go_roundw
        case rel =>
          refine ⟨j + 1, by omega, by go_num, ?_, HE1.out, HLL1.out⟩
          have e2 : h.cs.length + 1 - j = (h.cs.length + 1 - (j + 1)) + 1 := by omega
          rw [← HFW.out, e2, fewM_step HE2.out]
        case measure => simp [intOf]; omega
    · obtain rfl : j = h.cs.length + 1 := by omega
      clear hE hLL hf
      go_wp2_with fail
      go_ret
      refine ⟨_, [], rfl, HE.out, HLL.out, ?_⟩
      rw [← HFW.out, Nat.sub_self]
      rfl

/-- the first list, in memory -/
theorem LL.first {W : World} {B n cap : Nat} {A : Option Addr} {ps : List (Value × List Int)} (h : LL W B (.slice A n cap) ps) (hn : ps ≠ []) :
    ∃ (g : Nat) (x : Value × List Int), A = some ⟨g, 0, none⟩ ∧ ps.head? = some x ∧ W.cell? ⟨g, 0, none⟩ = some x.1 ∧ IsInts W .i64 x.1 x.2 := by
  obtain ⟨sa, cap', e, _, _, h3⟩ := h.own.form
  cases e
  rcases ps with _ | ⟨x, ps⟩
  · exact absurd rfl hn
  rcases h3 with ⟨h3, _⟩ | ⟨g, rfl, _, _, h3, _⟩
  · cases h3
  · refine ⟨g, x, rfl, rfl, ?_, (h.each x (by simp)).oneInts⟩
    have := h3 0 (by simp) 0 (by simp)
    simpa using this

set_option maxRecDepth 100000 in
set_option maxHeartbeats 2000000 in
theorem wrong_any (h : Hall) (sv : Value) (w : World) (hs : IsCnts w sv h.cs) (hM : chk h = 0 → fewestM h ≠ []) :
    Calls Try.prog 39 #[.agg #[.int .i64 h.n, .int .i64 h.most, sv]] w fun e w' =>
      ∃ lv, e = .returned (.tuple #[lv, .int .i64 (chk h)]) ∧ Ext w w' ∧ IsInts w' .i64 lv (wrongL h) := by
  obtain ⟨sa, cap, rfl, hl1, hl2, -⟩ := hs.spec
  have HS := Lib.hid hs
  have HM := Lib.hid hM
  clear hs hM
  by_cases hc : chk h = 0
  · have V := Lib.hid (valid_of_chk hc)
    have HC := Lib.hid hc
    go_enter Try.func39, Try.ntmps39
    go_wp2_with fail
    refine (open_ok h (.slice sa h.cs.length cap) (.slice none 0 0) [] _ (HS.out.ext (by repeat (first | exact Below.refl _ _ | refine Ext.al ?_ _ | refine Ext.dr ?_ | refine Ext.drN ?_ _ | refine Ext.gr ?_ _ | refine Ext.set ?_ (by simp) _ | (refine Ext.trans' ?_ (by assumption))))) (IsInts.nil _ _) (by rw [openE_nil]; exact HC.out)).mono ?_
    rintro e W1 ⟨b, r, rfl, hb1, hsh⟩
    have HE1 := Lib.hid (Ext.trans' (by exact (by repeat (first | exact Below.refl _ _ | refine Ext.al ?_ _ | refine Ext.dr ?_ | refine Ext.drN ?_ _ | refine Ext.gr ?_ _ | refine Ext.set ?_ (by simp) _ | (refine Ext.trans' ?_ (by assumption))))) hb1 : Ext w W1)
    have HSh := Lib.hid hsh
    clear hb1 hsh hc
    go_wp2_with fail
    refine (fewest_any h (.slice sa h.cs.length cap) V.out b r W1 HSh.out).mono ?_
    rintro e W2 ⟨v1, qs, rfl, hE2, hLL, hq⟩
    obtain ⟨sa1, n1, cap1, rfl⟩ := hLL.own.isSlice
    have hn1 := hLL.own.src.1
    have hq0 : qs ≠ [] := fun e => HM.out HC.out (by rw [← hq, e]; rfl)
    obtain ⟨g, x, rfl, hx, hcell, hints⟩ := hLL.first hq0
    have h1 : 0 < n1 := by
      rw [hn1, List.length_map]
      exact List.length_pos_iff.2 hq0
    have hw : wrongL h = x.2 := by
      rw [wrongL, if_pos HC.out, ← hq]
      rcases qs with _ | ⟨y, qs⟩
      · cases hx
      · cases hx; rfl
    have HW := Lib.hid hw
    have HI := Lib.hid hints
    have HE2 := Lib.hid (HE1.out.trans' hE2)
    clear hw hints hE2 hLL hq hq0 hx hn1
    go_wp2_with fail
    refine bodyPost_ret (v := .tuple #[x.1, .int .i64 0]) (by simp [results, Try.results39, go_sem]) rfl ?_
    exact ⟨x.1, by rw [HC.out], HE2.out, by rw [HW.out]; exact HI.out⟩
  · have hc' : (chk h == 0) = false := by simpa using hc
    have HC := Lib.hid hc
    go_enter Try.func39, Try.ntmps39
    go_wp2_with fail
    refine (open_bad h (.slice sa h.cs.length cap) (.slice none 0 0) [] _ (HS.out.ext (by repeat (first | exact Below.refl _ _ | refine Ext.al ?_ _ | refine Ext.dr ?_ | refine Ext.drN ?_ _ | refine Ext.gr ?_ _ | refine Ext.set ?_ (by simp) _ | (refine Ext.trans' ?_ (by assumption))))) (IsInts.nil _ _) (by rw [openE_nil]; exact HC.out)).mono ?_
    rintro e W1 ⟨rfl, hb1⟩
    rw [openE_nil]
    have HE1 := Lib.hid (Ext.trans' (by exact (by repeat (first | exact Below.refl _ _ | refine Ext.al ?_ _ | refine Ext.dr ?_ | refine Ext.drN ?_ _ | refine Ext.gr ?_ _ | refine Ext.set ?_ (by simp) _ | (refine Ext.trans' ?_ (by assumption))))) hb1 : Ext w W1)
    clear hb1
    go_wp2_with fail
    refine bodyPost_ret (v := .tuple #[.slice none 0 0, .int .i64 (chk h)]) (by simp [results, Try.results39, go_sem]) rfl ?_
    exact ⟨.slice none 0 0, rfl, HE1.out, by rw [wrongL, if_neg HC.out]; exact IsInts.nil _ _⟩

set_option maxRecDepth 100000 in
set_option maxHeartbeats 2000000 in
theorem lists_any (h : Hall) (sv : Value) (w : World) (hs : IsCnts w sv h.cs) :
    Calls Try.prog 41 #[.agg #[.int .i64 h.n, .int .i64 h.most, sv]] w fun e w' =>
      e = .returned (.tuple #[.int .i64 (listsN h), .int .i64 (chk h)]) ∧ Ext w w' := by
  obtain ⟨sa, cap, rfl, hl1, hl2, -⟩ := hs.spec
  have HS := Lib.hid hs
  clear hs
  by_cases hc : chk h = 0
  · have V := Lib.hid (valid_of_chk hc)
    have HC := Lib.hid hc
    go_enter Try.func41, Try.ntmps41
    go_wp2_with fail
    refine (open_ok h (.slice sa h.cs.length cap) (.slice none 0 0) [] _ (HS.out.ext (by repeat (first | exact Below.refl _ _ | refine Ext.al ?_ _ | refine Ext.dr ?_ | refine Ext.drN ?_ _ | refine Ext.gr ?_ _ | refine Ext.set ?_ (by simp) _ | (refine Ext.trans' ?_ (by assumption))))) (IsInts.nil _ _) (by rw [openE_nil]; exact HC.out)).mono ?_
    rintro e W1 ⟨b, r, rfl, hb1, hsh⟩
    have HE1 := Lib.hid (Ext.trans' (by exact (by repeat (first | exact Below.refl _ _ | refine Ext.al ?_ _ | refine Ext.dr ?_ | refine Ext.drN ?_ _ | refine Ext.gr ?_ _ | refine Ext.set ?_ (by simp) _ | (refine Ext.trans' ?_ (by assumption))))) hb1 : Ext w W1)
    have HSh := Lib.hid hsh
    clear hb1 hsh hc
    go_wp2_with fail
    refine (fewest_any h (.slice sa h.cs.length cap) V.out b r W1 HSh.out).mono ?_
    rintro e W2 ⟨v1, qs, rfl, hE2, hLL, hq⟩
    obtain ⟨sa1, n1, cap1, rfl⟩ := hLL.own.isSlice
    have hn1 := hLL.own.src.1
    have hw : listsN h = n1 := by
      rw [listsN, if_pos HC.out, ← hq, hn1]
      simp
    have HW := Lib.hid hw
    have HE2 := Lib.hid (HE1.out.trans' hE2)
    clear hw hE2 hLL hq hn1
    go_wp2_with fail
    refine bodyPost_ret (v := .tuple #[.int .i64 n1, .int .i64 0]) (by simp [results, Try.results41, go_sem]) rfl ?_
    exact ⟨by rw [HC.out, HW.out], HE2.out⟩
  · have hc' : (chk h == 0) = false := by simpa using hc
    have HC := Lib.hid hc
    go_enter Try.func41, Try.ntmps41
    go_wp2_with fail
    refine (open_bad h (.slice sa h.cs.length cap) (.slice none 0 0) [] _ (HS.out.ext (by repeat (first | exact Below.refl _ _ | refine Ext.al ?_ _ | refine Ext.dr ?_ | refine Ext.drN ?_ _ | refine Ext.gr ?_ _ | refine Ext.set ?_ (by simp) _ | (refine Ext.trans' ?_ (by assumption))))) (IsInts.nil _ _) (by rw [openE_nil]; exact HC.out)).mono ?_
    rintro e W1 ⟨rfl, hb1⟩
    rw [openE_nil]
    have HE1 := Lib.hid (Ext.trans' (by exact (by repeat (first | exact Below.refl _ _ | refine Ext.al ?_ _ | refine Ext.dr ?_ | refine Ext.drN ?_ _ | refine Ext.gr ?_ _ | refine Ext.set ?_ (by simp) _ | (refine Ext.trans' ?_ (by assumption))))) hb1 : Ext w W1)
    clear hb1
    go_wp2_with fail
    refine bodyPost_ret (v := .tuple #[.int .i64 0, .int .i64 (chk h)]) (by simp [results, Try.results41, go_sem]) rfl ?_
    exact ⟨by rw [listsN, if_neg HC.out], HE1.out⟩
end Go.Proofs.Ytgcldgchhdjnhaa
namespace Go.Proofs.Ytgcldgchhdjnhaa
open Go.RowKit Go.Shelf

set_option maxRecDepth 100000 in
set_option maxHeartbeats 1000000 in
theorem clone_any (ps : List (Value × List Int)) (v : Value) (B : Nat) (w : World) (hv : LL w B v ps) (hn : ps ≠ []) (h4 : ps.length ≤ 1024) :
    Calls Try.prog 91 #[v] w fun e w' => ∃ v', e = .returned v' ∧ Ext w w' ∧ Owns w' w.heap.size 56 1 v' (ps.map fun x => [x.1]) := by
  obtain ⟨sa, cap, rfl, hl1, hl2, h3⟩ := hv.own.form
  have hll : (ps.map fun x => [x.1]).length = ps.length := by simp
  rcases h3 with ⟨h3, _⟩ | ⟨g, rfl, _, hgl, hrow, _⟩
  · rw [List.map_eq_nil_iff] at h3; exact absurd h3 hn
  rw [hll] at hl1 hv ⊢
  have hp : 0 < ps.length := List.length_pos_iff.2 hn
  have HR := Lib.hid hrow
  have H1 := Lib.hid (ll_one hv)
  clear hv hrow hll
  have heq : ∀ W, (binOp .eql 120 (.slice (some ⟨g, 0, none⟩) ps.length cap) (.slice none 0 0)).run Try.prog W = .ok (.bool false) W := fun W => Lib.run_eql_slice_nil W 120 56 _ _ _ _ _ elLst.und
  go_enter Try.func91, Try.ntmps91
  go_wp2_with (at_builtin; refine wpGrow rfl (.tmp 5) (.tmp 6) elLst rfl (some ⟨w.heap.size, 0, none⟩) 0 (rows := []) rfl (by simp) (.inr ⟨_, _, rfl, fun i hi => absurd hi (by simp)⟩) g 0 cap (ps.map fun x => [x.1]) (by simp; rfl) one_rows (RowsAt.ext (by exact (by repeat (first | exact Below.refl _ _ | refine Ext.al ?_ _ | refine Ext.dr ?_ | refine Ext.drN ?_ _ | refine Ext.gr ?_ _ | refine Ext.set ?_ (by simp) _ | (refine Ext.trans' ?_ (by assumption))))) HR.out) H1.out (by simp; omega) (by simp; omega) ?_)
  intro v1 w1 hown1 hb1
  have hE : Ext w w1 := ((Below.refl _ w).alloc (Nat.le_refl _) _).trans (hb1.mono (by simp))
  have HE := Lib.hid hE
  have HO := Lib.hid hown1
  clear hb1 hown1 hE
  go_wp2_with fail
  go_ret
  refine ⟨v1, rfl, HE.out, ?_⟩
  exact HO.out.base (by simp)

set_option maxHeartbeats 1000000 in
theorem kind1_any (l : List Int) (c : Int) (lv : Value) (a : Addr) (w : World) (hl : IsInts w .i64 lv l) (ha : w.cell? a = some (.int .i64 c)) (has : a.spot = none) :
    Calls Try.prog 92 #[lv, .pointer (some a)] w fun e w' => e = .returned (.bool (!(l.contains c))) ∧ Ext w w' := by
  obtain ⟨ab, ao, sp⟩ := a
  obtain rfl : sp = none := has
  have H := Lib.hid (contains_any l c lv w hl)
  clear hl
  go_enter Try.func92, Try.ntmps92
  go_wp2_with fail
  refine callGr H.out fun g => ?_
  go_wp2_with fail
  go_ret
  refine ⟨ret_bool ?_, grow_below w g⟩
  simp

theorem fewM_len {h : Hall} (hl : h.cs.length ≤ 10) : ∀ j k, (fewM h j k).length ≤ 1024
  | 0, _ => by simp [fewM]
  | j + 1, k => by
    rw [fewM]
    split
    · exact fewM_len hl j (k + 1)
    · unfold pickM
      exact Nat.le_trans (List.length_filter_le _ _) (incs_len (n := h.cs.length) (by omega) k)

set_option maxRecDepth 100000 in
set_option maxHeartbeats 4000000 in
theorem kind_any (h : Hall) (sv : Value) (c : Int) (w : World) (hs : IsCnts w sv h.cs) (hM : chk h = 0 → fewestM h ≠ []) :
    Calls Try.prog 43 #[.agg #[.int .i64 h.n, .int .i64 h.most, sv], .int .i64 c] w fun e w' =>
      e = .returned (.tuple #[.int .i64 (kindN h c), .int .i64 (kindErr h c)]) ∧ Ext w w' := by
  obtain ⟨sa, cap, rfl, hl1, hl2, -⟩ := hs.spec
  have HS := Lib.hid hs
  have HM := Lib.hid hM
  clear hs hM
  have HBAD : Hid (∀ e : Int, e ≠ 0 → kindErr h c = e → Ending.returned (.tuple #[.int .i64 0, .int .i64 e]) = .returned (.tuple #[.int .i64 (kindN h c), .int .i64 (kindErr h c)])) := Lib.hid fun e he hh =>
    ret_ii (by rw [kindN, hh, if_pos he]) hh.symm
  by_cases hc : chk h = 0
  rotate_left
  · have hc' : (chk h == 0) = false := by simpa using hc
    have HC := Lib.hid hc
    go_enter Try.func43, Try.ntmps43
    go_wp2_with fail
    refine (open_bad h (.slice sa h.cs.length cap) (.slice none 0 0) [] _ (HS.out.ext (by repeat (first | exact Below.refl _ _ | refine Ext.al ?_ _ | refine Ext.dr ?_ | refine Ext.drN ?_ _ | refine Ext.gr ?_ _ | refine Ext.set ?_ (by simp) _ | (refine Ext.trans' ?_ (by assumption))))) (IsInts.nil _ _) (by rw [openE_nil]; exact HC.out)).mono ?_
    rintro e W1 ⟨rfl, hb1⟩
    rw [openE_nil]
    have HE1 := Lib.hid (Ext.trans' (by exact (by repeat (first | exact Below.refl _ _ | refine Ext.al ?_ _ | refine Ext.dr ?_ | refine Ext.drN ?_ _ | refine Ext.gr ?_ _ | refine Ext.set ?_ (by simp) _ | (refine Ext.trans' ?_ (by assumption))))) hb1 : Ext w W1)
    clear hb1
    go_wp2_with fail
    refine bodyPost_ret (v := .tuple #[.int .i64 0, .int .i64 (chk h)]) (by simp [results, Try.results43, go_sem]) rfl ?_
    exact ⟨HBAD.out _ HC.out (by rw [kindErr, if_pos HC.out]), HE1.out⟩
  have v := valid_of_chk hc
  have hlen := v.len
  have V := Lib.hid v
  have HC := Lib.hid hc
  clear v
  go_enter Try.func43, Try.ntmps43
  go_wp2_with fail
  refine (open_ok h (.slice sa h.cs.length cap) (.slice none 0 0) [] _ (HS.out.ext (by repeat (first | exact Below.refl _ _ | refine Ext.al ?_ _ | refine Ext.dr ?_ | refine Ext.drN ?_ _ | refine Ext.gr ?_ _ | refine Ext.set ?_ (by simp) _ | (refine Ext.trans' ?_ (by assumption))))) (IsInts.nil _ _) (by rw [openE_nil]; exact HC.out)).mono ?_
  rintro e W1 ⟨b, r, rfl, hb1, hsh⟩
  have k2 := cell_ext hb1 (a := ⟨w.heap.size, 2, none⟩) (v := .slice sa h.cs.length cap) (by simp [go_sem])
  have kc := cell_ext hb1 (a := ⟨w.heap.size + 1, 0, none⟩) (v := .int .i64 c) (by simp [go_sem])
  have HE1 := Lib.hid (Ext.trans' (by exact (by repeat (first | exact Below.refl _ _ | refine Ext.al ?_ _ | refine Ext.dr ?_ | refine Ext.drN ?_ _ | refine Ext.gr ?_ _ | refine Ext.set ?_ (by simp) _ | (refine Ext.trans' ?_ (by assumption))))) hb1 : Ext w W1)
  have HSh := Lib.hid hsh
  clear hb1 hsh hc
  by_cases hlo : c < 0
  · have h1 : decide (c < 0) = true := decide_eq_true hlo
    have HLO := Lib.hid hlo
    clear hlo
    go_wp2_with fail
    refine bodyPost_ret (v := .tuple #[.int .i64 0, .int .i64 2]) (by simp [results, Try.results43, go_sem]) rfl ?_
    exact ⟨HBAD.out _ (by omega) (by rw [kindErr, if_neg (fun hh => hh HC.out), if_pos (.inl HLO.out)]), HE1.out⟩
  have h1 : decide (c < 0) = false := decide_eq_false hlo
  by_cases hhi : (h.cs.length : Int) ≤ c
  · have h2 : decide ((h.cs.length : Int) ≤ c) = true := decide_eq_true hhi
    have HHI := Lib.hid hhi
    clear hhi
    go_wp2_with fail
    refine bodyPost_ret (v := .tuple #[.int .i64 0, .int .i64 2]) (by simp [results, Try.results43, go_sem]) rfl ?_
    exact ⟨HBAD.out _ (by omega) (by rw [kindErr, if_neg (fun hh => hh HC.out), if_pos (.inr HHI.out)]), HE1.out⟩
  have h2 : decide ((h.cs.length : Int) ≤ c) = false := decide_eq_false hhi
  have hke : kindErr h c = 0 := by rw [kindErr, if_neg (fun hh => hh HC.out), if_neg (by omega)]
  have HKE := Lib.hid hke
  have hz1 : w.heap.size + 1 < W1.heap.size := World.block_lt_of_cell? _ _ kc
  clear hke
  go_wp2_with fail
  refine (fewest_any h (.slice sa h.cs.length cap) V.out b r W1 HSh.out).mono ?_
  rintro e W2 ⟨v1, qs, rfl, hE2, hLL, hq⟩
  have hq0 : qs ≠ [] := fun e => HM.out HC.out (by rw [← hq, e]; rfl)
  have hq1 : qs.length ≤ 1024 := by
    have := fewM_len (h := h) hlen (h.cs.length + 1) 0
    rw [show fewM h (h.cs.length + 1) 0 = fewestM h from rfl, ← hq, List.length_map] at this
    exact this
  have hqn : qs.length = (fewestM h).length := by rw [← hq, List.length_map]
  obtain ⟨sa1, n1, cap1, rfl⟩ := hLL.own.isSlice
  have hn1 : n1 = qs.length := by rw [hLL.own.src.1, List.length_map]
  subst hn1
  have HCLONE := Lib.hid (clone_any qs _ _ W2 hLL hq0 hq1)
  have HE2 := Lib.hid hE2
  have HLL := Lib.hid hLL
  have HQ := Lib.hid hq
  have HQN := Lib.hid hqn
  have HQ0 := Lib.hid hq0
  clear hE2 hLL hq hqn hq0 k2
  go_wp2_with fail
  refine HCLONE.out.mono ?_
  rintro e W3 ⟨v2, rfl, hE3, hown2⟩
  obtain ⟨sa2, n2, cap2, rfl⟩ := hown2.isSlice
  have hLL3 : LL W3 W1.heap.size (.slice sa2 n2 cap2) qs := ⟨hown2.base ((HE2.out : Ext W1 W2).size), fun x hx => (HLL.out.each x hx).ext hE3⟩
  have hext : ∀ W, Kept (fun k => some k ≠ (Value.slice sa2 n2 cap2).ownBlock) W3 W → Ext W2 W := fun W hW => hE3.trans (hown2.keptBelow hE3.size hW)
  have hf : ∀ x, x ∈ qs → ∀ W, Kept (fun k => some k ≠ (Value.slice sa2 n2 cap2).ownBlock) W3 W → Calls Try.prog 92 #[x.1, .pointer (some ⟨w.heap.size + 1, 0, none⟩)] W fun e W' => e = .returned (.bool (!(x.2.contains c))) ∧ Ext W W' := fun x hx W hW =>
    kind1_any x.2 c x.1 ⟨w.heap.size + 1, 0, none⟩ W (((HLL.out.each x hx).ext (hext W hW)).oneInts) (cell_ext (HE2.out.trans' (hext W hW)) kc) rfl
  have HDEL := Lib.hid (delete_any qs (.slice sa2 n2 cap2) 92 #[.pointer (some ⟨w.heap.size + 1, 0, none⟩)] (fun x => !(x.2.contains c)) W1.heap.size W3 hLL3 (fun args W => Try.call92 args W) hf)
  have HX := Lib.hid hext
  clear hE3 hown2 hLL3 hext hf kc
  go_wp2_with fail
  refine HDEL.out.mono ?_
  rintro e W4 ⟨v3, rfl, hK4, hLL4⟩
  obtain ⟨sa3, n3, cap3, rfl⟩ := hLL4.own.isSlice
  have hn3 : n3 = (fewestM h).countP fun l => l.contains c := by
    rw [hLL4.own.src.1, List.length_map]
    simp only [Bool.not_not]
    rw [← List.countP_eq_length_filter, ← HQ.out, List.countP_map]
    rfl
  have HN3 := Lib.hid hn3
  have HE4 := Lib.hid (HE1.out.trans' (HE2.out.trans' (HX.out W4 hK4)))
  have HLE : Hid (n3 ≤ qs.length) := Lib.hid (by rw [hn3, HQN.out]; exact List.countP_le_length)
  clear hn3 hK4 hLL4
  by_cases h0 : n3 = 0
  · subst h0
    go_wp2_with fail
    refine bodyPost_ret (v := .tuple #[.int .i64 0, .int .i64 0]) (by simp [results, Try.results43, go_sem]) rfl ?_
    exact ⟨ret_ii (by rw [kindN, if_neg (fun hh => hh HKE.out), if_pos HN3.out.symm]) HKE.out.symm, HE4.out⟩
  have h0' : (((n3 : Nat) : Int) == 0) = false := by simpa using h0
  by_cases he : n3 = qs.length
  · have he' : (((n3 : Nat) : Int) == ((qs.length : Nat) : Int)) = true := by rw [he]; exact beq_self_eq_true _
    have HE := Lib.hid he
    have H0 := Lib.hid h0
    clear he h0
    go_wp2_with fail
    refine bodyPost_ret (v := .tuple #[.int .i64 2, .int .i64 0]) (by simp [results, Try.results43, go_sem]) rfl ?_
    exact ⟨ret_ii (by rw [kindN, if_neg (fun hh => hh HKE.out), ← HN3.out, if_neg H0.out, if_pos (by rw [HE.out, HQN.out])]) HKE.out.symm, HE4.out⟩
  · have he' : (((n3 : Nat) : Int) == ((qs.length : Nat) : Int)) = false := by simp; omega
    have HE := Lib.hid he
    have H0 := Lib.hid h0
    clear he h0
    go_wp2_with fail
    refine bodyPost_ret (v := .tuple #[.int .i64 1, .int .i64 0]) (by simp [results, Try.results43, go_sem]) rfl ?_
    exact ⟨ret_ii (by rw [kindN, if_neg (fun hh => hh HKE.out), ← HN3.out, if_neg H0.out, if_neg (by rw [← HQN.out]; exact HE.out)]) HKE.out.symm, HE4.out⟩
end Go.Proofs.Ytgcldgchhdjnhaa
