/-
  The walks of pick and fewest: all lists of the fewest counters that can be wrong.
-/
import Derived.Test.YtgcldgchhdjnhaaPick
import Derived.Test.YtgcldgchhdjnhaaDel
import Derived.Test.YtgcldgchhdjnhaaWay
namespace Go.Proofs.Ytgcldgchhdjnhaa
open Go.RowKit Go.Shelf

set_option maxHeartbeats 1000000 in
theorem delete_nil (f : Nat) (cs : Array Value) (w : World) (hcall : ∀ args W, (callFunc f args).run Try.prog W = .ok (.enter f args) W) :
    Calls Try.prog 90 #[.slice none 0 0, .func (.func f) #[] cs] w fun e w' => e = .returned (.slice none 0 0) ∧ Ext w w' := by
  have H := Lib.hid (indexFuncLst [] none 0 f cs (fun _ => false) w (by simp) (.inl rfl) hcall (fun x hx => by cases hx))
  go_enter Try.func90, Try.ntmps90
  go_wp2_with fail
  refine callGr H.out fun g0 => ?_
  have hfx : fidx (fun _ => false) ([] : List (Value × List Int)) = -1 := by simp [fidx]
  rw [hfx]
  clear hfx
  go_wp2_with fail
  go_ret
  exact ⟨rfl, grow_below w g0⟩
theorem delete_any (ps : List (Value × List Int)) (v : Value) (f : Nat) (cs : Array Value) (p : (Value × List Int) → Bool) (B : Nat) (w : World) (hv : LL w B v ps)
    (hcall : ∀ args W, (callFunc f args).run Try.prog W = .ok (.enter f args) W)
    (hf : ∀ x, x ∈ ps → ∀ W, Kept (fun k => some k ≠ v.ownBlock) w W → Calls Try.prog f (#[x.1] ++ cs) W fun e W' => e = .returned (.bool (p x)) ∧ Ext W W') :
    Calls Try.prog 90 #[v, .func (.func f) #[] cs] w fun e w' =>
      ∃ v', e = .returned v' ∧ Kept (fun k => some k ≠ v.ownBlock) w w' ∧ LL w' B v' (ps.filter fun x => !p x) := by
  have hll : (ps.map fun x => [x.1]).length = ps.length := by simp
  obtain ⟨sa, cap, rfl, _, _, h3⟩ := hv.own.form
  rw [hll] at hv hf ⊢
  rcases h3 with ⟨h1, rfl, rfl⟩ | ⟨g, rfl, _⟩
  · rw [List.map_eq_nil_iff] at h1
    subst h1
    refine (delete_nil f cs w hcall).mono ?_
    rintro e w' ⟨rfl, he⟩
    exact ⟨_, rfl, Kept.of_below he, LL.nil _ _⟩
  · rw [ownBlock_some] at hf ⊢
    exact delete_some ps g cap f cs p B w hv hcall hf

set_option maxHeartbeats 1000000 in
theorem pick2_any (h : Hall) (sv lv : Value) (v : Valid h) (l : List Int) (b r : Nat) (a : Addr) (w : World) (hs : SheetAt w b r h sv) (hl : IsInts w .i64 lv l) (ha : w.cell? a = some (.func (.func 105) #[.pointer (some ⟨b, 0, none⟩)] #[])) (has : a.spot = none) :
    Calls Try.prog 114 #[lv, .pointer (some a)] w fun e w' => e = .returned (.bool (!(leastM (wo h l) 0).2)) ∧ Ext w w' := by
  obtain ⟨ab, ao, sp⟩ := a
  obtain rfl : sp = none := has
  have hcall := fun args W => Try.call105 args W
  have H := Lib.hid (agree_any h sv lv v l b r w hs hl)
  clear hs hl
  go_enter Try.func114, Try.ntmps114
  go_wp2_with fail
  refine callGr H.out fun g => ?_
  go_wp2_with fail
  go_ret
  exact ⟨rfl, grow_below w g⟩

theorem LL.mapFilter {ps : List (Value × List Int)} (q : List Int → Bool) : (ps.filter fun x => q x.2).map (·.2) = (ps.map (·.2)).filter q := by
  rw [List.filter_map]; rfl

theorem ll_first (w : World) (B : Nat) (hB : B ≤ w.heap.size) : LL (w.alloc (.cells #[.slice none 0 0] 56)) B (.slice (some ⟨w.heap.size, 0, none⟩) 1 1) [(.slice none 0 0, [])] := by
  refine ⟨⟨⟨by simp, .inr ⟨w.heap.size, 1, #[.slice none 0 0], rfl, hB, ?_, by simp, by simp [maxLen], rfl, by simp⟩⟩, one_rows⟩, fun x hx => ?_⟩
  · show (w.heap.push _)[w.heap.size]? = _
    rw [Array.getElem?_push, if_pos rfl]
  · simp only [List.mem_singleton] at hx
    subst hx
    exact Owns.nil _ _ _ _
theorem flat_take_le {α β : Type} (f : α → List β) (l : List α) : ∀ k, ((l.take k).flatMap f).length ≤ (l.flatMap f).length := fun k => by
  have : (l.take k ++ l.drop k).flatMap f = l.flatMap f := by rw [List.take_append_drop]
  rw [← this, List.flatMap_append, List.length_append]
  omega
set_option maxRecDepth 100000 in
set_option maxHeartbeats 2000000 in
theorem pick_any (h : Hall) (sv : Value) (v : Valid h) (k : Nat) (hk : k ≤ h.cs.length) (b r : Nat) (w : World) (hs : SheetAt w b r h sv) :
    Calls Try.prog 106 #[.int .i64 k, .int .i64 h.cs.length, .func (.func 105) #[.pointer (some ⟨b, 0, none⟩)] #[]] w (LLs w.heap.size (pickM h k) w) := by
  have hlen := v.len
  have HS := Lib.hid hs
  have V := Lib.hid v
  clear hs v
  have hcall := fun args W => Try.call113 args W
  have hcall2 := fun args W => Try.call114 args W
  go_enter Try.func106, Try.ntmps106
  go_wp2_with fail
  have hinit := ll_first ((w.alloc (Obj.cells #[.int .i64 h.cs.length] 3)).alloc (Obj.cells #[.func (.func 105) #[.pointer (some ⟨b, 0, none⟩)] #[]] 126)) (w.heap.size + 2) (by simp)
  simp only [World.size_alloc] at hinit
  have HIN := Lib.hid hinit
  clear hinit
  go_loopw [7, 10] (fun all i W => ∃ (j : Nat) (ps : List (Value × List Int)), j ≤ k ∧ i = .int .i64 j ∧ Ext w W ∧ W.cell? ⟨w.heap.size, 0, none⟩ = some (.int .i64 h.cs.length) ∧ W.cell? ⟨w.heap.size + 1, 0, none⟩ = some (.func (.func 105) #[.pointer (some ⟨b, 0, none⟩)] #[]) ∧
    LL W (w.heap.size + 2) all ps ∧ ps.map (·.2) = incs h.cs.length j) (fun _ i _ => k - (intOf i).toNat)
  case atStart => exact ⟨0, [(.slice none 0 0, [])], by omega, rfl, (by repeat (first | exact Below.refl _ _ | refine Ext.al ?_ _ | refine Ext.dr ?_ | refine Ext.drN ?_ _ | refine Ext.gr ?_ _ | refine Ext.set ?_ (by simp) _ | (refine Ext.trans' ?_ (by assumption)))), by simp [go_sem], by simp [go_sem], HIN.out, rfl⟩
  case round =>
    obtain ⟨j, ps, hj, rfl, hE, k0, k1, hLL, hps⟩ := hrel
    have HE := Lib.hid hE
    have HLL := Lib.hid hLL
    have HPS := Lib.hid hps
    have hsz := hE.size
    have hz1 : w.heap.size + 1 < wr.heap.size := World.block_lt_of_cell? _ _ k1
    by_cases hlt : j < k
    · clear hE hLL hps
      go_wp2_with fail
      refine (spread_any ps _ h.cs.length (by omega) (w.heap.size + 2) ⟨w.heap.size, 0, none⟩ wr (fun x hx => incs_inc (by omega) j x.2 (by rw [← HPS.out]; exact List.mem_map_of_mem hx)) HLL.out k0 rfl ?_).mono ?_
      · rw [HPS.out]
        exact incs_len (n := h.cs.length) (by omega) (j + 1)
      rintro e W1 ⟨v1, qs, rfl, hE1, hLL1, hq1⟩
      have k0' := cell_ext hE1 k0
      have k1' := cell_ext hE1 k1
      have HE1 := Lib.hid hE1
      have HLL1 := Lib.hid (hLL1.base (B' := w.heap.size + 2) (by omega))
      have HQ := Lib.hid (hq1.trans (by rw [HPS.out]; rfl : _ = incs h.cs.length (j + 1)))
      clear hE1 hLL1 hq1 k0 k1
      go_wp2_with fail
      go_roundw
      case rel => exact ⟨j + 1, qs, by omega, by go_num, HE.out.trans' HE1.out, k0', k1', HLL1.out, HQ.out⟩
      case measure => simp [intOf]; omega
    · obtain rfl : j = k := by omega
      obtain ⟨sa1, n1, cap1, rfl⟩ := hLL.own.isSlice
      have hSA : Hid (∀ W, Kept (fun k => some k ≠ (Value.slice sa1 n1 cap1).ownBlock) wr W → Ext w W ∧ W.cell? ⟨w.heap.size + 1, 0, none⟩ = some (.func (.func 105) #[.pointer (some ⟨b, 0, none⟩)] #[])) := Lib.hid fun W hW => by
        have hb := hLL.own.keptBelow (by omega) hW
        exact ⟨hE.trans (hb.mono (by omega)), (hb.cell (p := ⟨w.heap.size + 1, 0, none⟩) (by show w.heap.size + 1 < _; omega)).trans k1⟩
      have hf : ∀ x, x ∈ ps → ∀ W, Kept (fun k => some k ≠ (Value.slice sa1 n1 cap1).ownBlock) wr W → Calls Try.prog 114 #[x.1, .pointer (some ⟨w.heap.size + 1, 0, none⟩)] W fun e W' => e = .returned (.bool (!(leastM (wo h x.2) 0).2)) ∧ Ext W W' := fun x hx W hW => by
        obtain ⟨e1, e2⟩ := hSA.out W hW
        exact pick2_any h sv x.1 V.out x.2 b r _ W (HS.out.ext e1) (((HLL.out.each x hx).keep (by decide) HLL.out.own hW).oneInts) e2 rfl
      have hdel := delete_any ps (.slice sa1 n1 cap1) 114 #[.pointer (some ⟨w.heap.size + 1, 0, none⟩)] (fun x => !(leastM (wo h x.2) 0).2) (w.heap.size + 2) wr HLL.out hcall2 hf
      have HDEL := Lib.hid hdel
      clear hE hLL hps k0 k1 hf hdel
      go_wp2_with fail
      refine HDEL.out.mono ?_
      rintro e W1 ⟨v1, rfl, hK1, hLL1⟩
      have HE1 := Lib.hid (hSA.out W1 hK1).1
      have HLL1 := Lib.hid hLL1
      clear hK1 hLL1
      go_wp2_with fail
      go_ret
      refine ⟨v1, _, rfl, HE1.out, HLL1.out.base (by omega), ?_⟩
      simp only [Bool.not_not]
      rw [LL.mapFilter (fun l => (leastM (wo h l) 0).2), HPS.out]
      rfl
end Go.Proofs.Ytgcldgchhdjnhaa
