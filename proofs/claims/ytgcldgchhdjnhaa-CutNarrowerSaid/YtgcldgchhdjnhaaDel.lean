/-
  The walk of slices.DeleteFunc on lists of numbers that a call has made.
-/
import Derived.Test.YtgcldgchhdjnhaaOwn2
import Derived.Test.YtgcldgchhdjnhaaIdx2
import Derived.Lib.SliceRun
namespace Go.Proofs.Ytgcldgchhdjnhaa
open Go.RowKit Go.Shelf

/-- the lists in a block, the first ones anew -/
structure DelB (W : World) (g sz : Nat) (ps : List (Value × List Int)) (p : (Value × List Int) → Bool) (k m : Nat) : Prop where
  hm : m = ((ps.take k).filter fun x => !p x).length
  blk : ∃ cur, W.heap[g]? = some (.cells cur 56 (0, 0)) ∧ cur.size = sz ∧ (∀ q, (h : q < m) → cur[q]? = some (((ps.take k).filter fun x => !p x)[q]'(by omega)).1) ∧ ∀ q, k ≤ q → (h : q < ps.length) → cur[q]? = some ps[q].1
theorem filter_take_succ {α : Type} (p : α → Bool) (l : List α) (k : Nat) (hk : k < l.length) : (l.take (k + 1)).filter p = (l.take k).filter p ++ if p l[k] then [l[k]] else [] := by
  rw [List.take_succ_eq_append_getElem hk, List.filter_append]
  congr 1
  simp [List.filter_cons]
theorem DelB.skip {W : World} {g sz : Nat} {ps : List (Value × List Int)} {p : (Value × List Int) → Bool} {k m : Nat} (d : DelB W g sz ps p k m) (hk : k < ps.length) (hp : p ps[k] = true) : DelB W g sz ps p (k + 1) m := by
  have e : (ps.take (k + 1)).filter (fun x => !p x) = (ps.take k).filter fun x => !p x := by rw [filter_take_succ _ _ _ hk]; simp [hp]
  obtain ⟨cur, h1, h2, h3, h4⟩ := d.blk
  refine ⟨by rw [e]; exact d.hm, cur, h1, h2, fun q hq => ?_, fun q h h' => h4 q (by omega) h'⟩
  rw [h3 q hq]
  congr 2
  exact (List.getElem_of_eq e.symm _)
theorem DelB.put {W : World} {g sz : Nat} {ps : List (Value × List Int)} {p : (Value × List Int) → Bool} {k m : Nat} (d : DelB W g sz ps p k m) (hk : k < ps.length) (hp : p ps[k] = false) (hm : m < k) (hs : ps.length ≤ sz) :
    DelB (W.setCell ⟨g, m, none⟩ ps[k].1) g sz ps p (k + 1) (m + 1) := by
  have e : (ps.take (k + 1)).filter (fun x => !p x) = ((ps.take k).filter fun x => !p x) ++ [ps[k]] := by rw [filter_take_succ _ _ _ hk]; simp [hp]
  obtain ⟨cur, h1, h2, h3, h4⟩ := d.blk
  have hm' := d.hm
  refine ⟨by rw [e]; simp [← hm'], cur.setIfInBounds m ps[k].1, heap_setCell_row h1 _ _, by simpa using h2, fun q hq => ?_, fun q h h' => ?_⟩
  · have eq : (((ps.take (k + 1)).filter fun x => !p x)[q]'(by rw [e]; simp; omega)) = (((ps.take k).filter fun x => !p x) ++ [ps[k]])[q]'(by simp; omega) := List.getElem_of_eq e _
    rw [eq]
    by_cases hqm : q = m
    · subst hqm
      rw [set_on _ (by omega), List.getElem_append_right (by omega)]
      simp
    · rw [set_off _ (by omega), h3 q (by omega), List.getElem_append_left (by omega)]
  · rw [set_off _ (by omega)]
    exact h4 q (by omega) h'
theorem DelB.ext {W W' : World} (e : Ext W W') {g sz : Nat} {ps : List (Value × List Int)} {p : (Value × List Int) → Bool} {k m : Nat} (d : DelB W g sz ps p k m) : DelB W' g sz ps p k m := by
  obtain ⟨cur, h1, h2⟩ := d.blk
  exact ⟨d.hm, cur, (e.block g (Array.getElem?_eq_some_iff.1 h1).1).trans h1, h2⟩
theorem zeroLst (w : World) : (zeroValue 56).run Try.prog w = .ok (.slice none 0 0) w := by kernel_rfl
theorem setCells_row {g : Nat} {t : TypeId} : ∀ (l : List Value) (o : Nat) (W : World) (cur : Array Value), W.heap[g]? = some (.cells cur t (0, 0)) → ∃ cur', (W.setCells g o l).heap[g]? = some (.cells cur' t (0, 0)) ∧ cur'.size = cur.size ∧ ∀ q, q < o → cur'[q]? = cur[q]?
  | [], o, W, cur, h => ⟨cur, h, rfl, fun _ _ => rfl⟩
  | v :: l, o, W, cur, h => by
    rw [World.setCells]
    obtain ⟨cur', h1, h2, h3⟩ := setCells_row l (o + 1) _ _ (heap_setCell_row h o v)
    exact ⟨cur', h1, by simpa using h2, fun q hq => by rw [h3 q (by omega), set_off _ (by omega)]⟩
theorem kept_setCells {g : Nat} {w : World} : ∀ (l : List Value) (o : Nat) {W : World}, Kept (fun k => k ≠ g) w W → Kept (fun k => k ≠ g) w (W.setCells g o l)
  | [], _, _, h => h
  | v :: l, o, _, h => kept_setCells l (o + 1) (h.setCell (p := ⟨g, o, none⟩) (fun _ hh => hh rfl) v)
theorem ownBlock_some (g n cap : Nat) : (fun k => some k ≠ (Value.slice (some ⟨g, 0, none⟩) n cap).ownBlock) = fun k => k ≠ g := by
  funext k
  simp [Value.ownBlock]

set_option maxRecDepth 100000 in
set_option maxHeartbeats 4000000 in
theorem delete_some (ps : List (Value × List Int)) (g cap f : Nat) (cs : Array Value) (p : (Value × List Int) → Bool) (B : Nat) (w : World) (hv : LL w B (.slice (some ⟨g, 0, none⟩) ps.length cap) ps)
    (hcall : ∀ args W, (callFunc f args).run Try.prog W = .ok (.enter f args) W)
    (hf : ∀ x, x ∈ ps → ∀ W, Kept (fun k => k ≠ g) w W → Calls Try.prog f (#[x.1] ++ cs) W fun e W' => e = .returned (.bool (p x)) ∧ Ext W W') :
    Calls Try.prog 90 #[.slice (some ⟨g, 0, none⟩) ps.length cap, .func (.func f) #[] cs] w fun e w' =>
      ∃ v', e = .returned v' ∧ Kept (fun k => k ≠ g) w w' ∧ LL w' B v' (ps.filter fun x => !p x) := by
  obtain ⟨sa0, cap0, e0, hl1, hl2, -⟩ := hv.own.form
  have hll : (ps.map fun x => [x.1]).length = ps.length := by simp
  rw [hll] at hl1 e0
  cases e0
  have hbase := hv.own.1.2
  obtain ⟨cur, hBg, hg, hcs, hcells⟩ : ∃ cur, B ≤ g ∧ w.heap[g]? = some (.cells cur 56 (0, 0)) ∧ cur.size = cap ∧ ∀ q, (h : q < ps.length) → cur[q]? = some ps[q].1 := by
    obtain ⟨_, h2⟩ := hv.own.1
    rcases h2 with ⟨e, _⟩ | ⟨g', cap', cur, e, hb, hg, hc, _, hs, ht⟩
    · cases e
    · simp only [Value.slice.injEq, Option.some.injEq, Addr.mk.injEq] at e
      obtain ⟨⟨rfl, _⟩, _, rfl⟩ := e
      refine ⟨cur, hb, hg, by omega, fun q hq => ?_⟩
      have h5 := (hv.own.src).2
      rcases h5 with ⟨h5, _⟩ | ⟨b, off, h5, h6⟩
      · cases h5
      · cases h5
        have h7 := h6 q (by simpa using hq) 0 (by simp)
        rw [cell_of_row _ _ _ _ _ _ hg] at h7
        simpa using h7
  have hgl : g < w.heap.size := (Array.getElem?_eq_some_iff.1 hg).1
  have HV := Lib.hid hv
  have HF := Lib.hid hf
  have HC := Lib.hid hcells
  have HG := Lib.hid hg
  have hid := indexFuncLst ps (some ⟨g, 0, none⟩) cap f cs p w (by omega) (.inr ⟨g, 0, rfl, fun i hi => by rw [cell_of_row _ _ _ _ _ _ hg, Nat.zero_add]; exact hcells i hi⟩) hcall (fun x hx W hW => HF.out x hx W (Kept.of_below hW))
  have HID := Lib.hid hid
  clear hv hf hcells hg hid hbase
  go_enter Try.func90, Try.ntmps90
  go_wp2_with fail
  refine callGr HID.out fun g0 => ?_
  cases hfi : ps.findIdx? p with
  | none =>
    have hno : ∀ x ∈ ps, p x = false := fun x hx => by
      have := (List.findIdx?_eq_none_iff.1 hfi) x hx; simpa using this
    have hfx : fidx p ps = -1 := by simp [fidx, hfi]
    have HNO := Lib.hid hno
    rw [hfx]
    clear hfi hfx hno
    go_wp2_with fail
    go_ret
    refine ⟨_, rfl, Kept.of_below (grow_below w g0), ?_⟩
    have e : (ps.filter fun x => !p x) = ps := List.filter_eq_self.2 fun x hx => by simp [HNO.out x hx]
    rw [e]
    exact HV.out.ext (grow_below w g0)
  | some i0 =>
    obtain ⟨hi0, hp0, hbef⟩ := List.findIdx?_eq_some_iff_getElem.1 hfi
    have hfx : fidx p ps = (i0 : Int) := by simp [fidx, hfi]
    rw [hfx]
    have hstart : DelB (grow w g0) g cap ps p (i0 + 1) i0 := by
      have e : ((ps.take i0).filter fun x => !p x) = ps.take i0 := List.filter_eq_self.2 fun x hx => by
        obtain ⟨j, hj, rfl⟩ := List.mem_take_iff_getElem.1 hx
        have := hbef j (by omega)
        simpa using this
      have hd : DelB (grow w g0) g cap ps p i0 i0 := by
        refine ⟨by rw [e, List.length_take]; omega, cur, ?_, hcs, fun q hq => ?_, fun q h h' => HC.out q h'⟩
        · exact ((grow_below w g0).block _ hgl).trans HG.out
        · rw [HC.out q (by omega)]
          congr 2
          have := List.getElem_of_eq e (i := q) (by rw [e, List.length_take]; omega)
          rw [this]
          simp
      exact hd.skip hi0 hp0
    have HST := Lib.hid hstart
    have hne : (((i0 : Int)) == -1) = false := by simp
    clear hfi hfx hbef hstart
    go_wp2_with fail
    have HK0 := Lib.hid (Kept.of_below (S := fun k => k ≠ g) (grow_below w g0))
    generalize grow w g0 = w0 at *
    go_loopw [5, 6] (fun i j W => ∃ k m : Nat, k ≤ ps.length ∧ m < k ∧ i = .int .i64 m ∧ j = .int .i64 k ∧ Kept (fun k => k ≠ g) w W ∧ DelB W g cap ps p k m) (fun _ j _ => ps.length - (intOf j).toNat)
    case atStart => exact ⟨i0 + 1, i0, by omega, by omega, rfl, by go_num, HK0.out, HST.out⟩
    case round =>
      obtain ⟨k, m, hk, hmk, rfl, rfl, hK, hD⟩ := hrel
      have HK := Lib.hid hK
      have HD := Lib.hid hD
      by_cases hlt : k < ps.length
      · obtain ⟨cur', d1, d2, d3, d4⟩ := hD.blk
        have hck : wr.cell? ⟨g, k, none⟩ = some ps[k].1 := by rw [cell_of_row _ _ _ _ _ _ d1]; exact d4 k (Nat.le_refl _) hlt
        have hgw : g < wr.heap.size := (Array.getElem?_eq_some_iff.1 d1).1
        obtain ⟨sx, nx, cx, hx⟩ := (HV.out.each ps[k] (List.getElem_mem hlt)).isSlice
        have hcl := HF.out ps[k] (List.getElem_mem hlt) wr hK
        have HX := Lib.hid hx
        rw [hx] at hck hcl
        have HCL := Lib.hid hcl
        obtain ⟨vm, hvm⟩ : ∃ vm, cur'[m]? = some vm := ⟨cur'[m]'(by omega), Array.getElem?_eq_getElem _⟩
        have hcm : wr.cell? ⟨g, m, none⟩ = some vm := by rw [cell_of_row _ _ _ _ _ _ d1]; exact hvm
        have hfr : wr.frozen? ⟨g, m, none⟩ = false := by simp [World.frozen?, d1]
        clear hK hD d1 d2 d3 d4 hx hcl hvm
        go_wp2_with fail
        refine callGr HCL.out fun g1 => ?_
        have hd2 := (HD.out : DelB wr g cap ps p k m).ext (grow_below wr g1)
        have HD2 := Lib.hid hd2
        have HK2 := Lib.hid (Kept.trans (HK.out : Kept (fun k => k ≠ g) w wr) (Kept.of_below (grow_below wr g1)))
        clear hd2
        cases hp : p ps[k]
        · have HP := Lib.hid hp
          clear hp
          go_wp2_with fail
          go_roundw
          case rel =>
            refine ⟨k + 1, m + 1, by omega, by omega, by go_num, by go_num, HK2.out.setCell (fun _ hh => hh rfl) _, ?_⟩
            have := HD2.out.put hlt HP.out hmk (by omega)
            rwa [HX.out] at this
          case measure => simp [intOf]; omega
        · have HP := Lib.hid hp
          clear hp
          go_wp2_with fail
          go_roundw
          case rel => exact ⟨k + 1, m, by omega, by omega, rfl, by go_num, HK2.out, HD2.out.skip hlt HP.out⟩
          case measure => simp [intOf]; omega
      · obtain rfl : k = ps.length := by omega
        have hcm : ¬ cap = m := by omega
        obtain ⟨cur', d1, d2, d3, d4⟩ := hD.blk
        have hclr : ∀ ty, (Builtin.clear_ #[120] ty #[.slice (some ⟨g, m, none⟩) (ps.length - m) (cap - m)]).run Try.prog wr = .ok (.tuple #[]) (wr.setCells g m (List.replicate (ps.length - m) (.slice none 0 0))) := fun ty =>
          Lib.run_clear_slice _ 120 56 ty (.slice none 0 0) (by kernel_rfl) zeroLst rfl rfl g m (ps.length - m) (cap - m) (by omega) (fun j hj => by rw [cell_of_row _ _ _ _ _ _ d1, Array.getElem?_eq_getElem (by omega)]; rfl) (fun j hj => by simp [World.frozen?, d1])
        clear hK hD d1 d2 d3 d4
        go_wp2_with (simp only [hclr])
        go_ret
        obtain ⟨cur', d1, d2, d3, d4⟩ := (HD.out : DelB wr g cap ps p ps.length m).blk
        obtain ⟨cur2, e1, e2, e3⟩ := setCells_row (List.replicate (ps.length - m) (.slice none 0 0)) m wr cur' d1
        have hKK := kept_setCells (List.replicate (ps.length - m) (.slice none 0 0)) m (HK.out : Kept (fun k => k ≠ g) w wr)
        have hm := (HD.out : DelB wr g cap ps p ps.length m).hm
        have ht : ps.take ps.length = ps := List.take_length
        have hm2 : m = (ps.filter fun x => !p x).length := by rw [hm, ht]
        refine ⟨_, rfl, hKK, ⟨⟨?_, fun r hr => one_rows r hr⟩, fun x hx => ?_⟩⟩
        · refine ⟨flatten_len one_rows, .inr ⟨g, cap, cur2, by rw [hm2]; simp, hBg, e1, by simp; omega, by simpa [maxLen] using hl2, by omega, ?_⟩⟩
          apply List.ext_getElem?
          intro q
          have hfl : ((ps.filter fun x => !p x).map fun x => [x.1]).flatten = (ps.filter fun x => !p x).map (·.1) := by
            induction (ps.filter fun x => !p x) with
            | nil => rfl
            | cons a l ih => simp only [List.map_cons, List.flatten_cons, ih]; rfl
          rw [hfl, List.length_map, Nat.mul_one, List.getElem?_take]
          by_cases hq : q < m
          · rw [if_pos (by omega)]
            have h3 := d3 q hq
            have h4 := e3 q hq
            rw [h3] at h4
            rw [Array.getElem?_toList, h4]
            have e5 : ((ps.take ps.length).filter fun x => !p x) = ps.filter fun x => !p x := by rw [ht]
            rw [List.getElem?_map, List.getElem?_eq_getElem (by omega)]
            simp only [Option.map_some, Option.some.injEq]
            congr 1
            exact List.getElem_of_eq e5 _
          · rw [if_neg (by omega), List.getElem?_eq_none (by simp; omega)]
        · have hx' := (List.mem_filter.1 hx).1
          refine (HV.out.each x hx').keep (by decide) HV.out.own ?_
          rw [ownBlock_some]
          exact hKK
end Go.Proofs.Ytgcldgchhdjnhaa
