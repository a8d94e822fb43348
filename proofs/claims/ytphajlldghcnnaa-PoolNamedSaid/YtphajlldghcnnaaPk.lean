/-
 The walk of finishes (its iterator is not walked yet), and what it yields, plainly.
 slices.IndexFunc and slices.DeleteFunc on lists of lists of numbers that a call has made; the closure that asks for an empty list.
 make and copy of bets: a new list of bets that holds the same.
 Three lists of numbers that a call has made, in one slice; numbers' bits.
 Plain: what finishes yields are finishes of the book.
-/
import Derived.Test.YtphajlldghcnnaaPi
import Derived.Test.YtphajlldghcnnaaPc
import Derived.Lib.SliceRun
import Derived.Test.YtphajlldghcnnaaPj
import Derived.Laws.CopyOwn
import Derived.Laws.CopyRow
namespace Go.Proofs.Ytphajlldghcnnaa
open Go.RowKit Go.Shelf
set_option maxRecDepth 100000 in
set_option maxHeartbeats 1000000 in
theorem finishes_any (p : Nat) (w : World) :
  Calls Try.prog 76 #[.pointer (some ⟨p, 0, none⟩)] w fun e w' => e = .returned (.func (.func 98) #[] #[.pointer (some ⟨w.heap.size, 0, none⟩)]) ∧
   Ext w w' ∧ w'.cell? ⟨w.heap.size, 0, none⟩ = some (.pointer (some ⟨p, 0, none⟩)) ∧ w'.heap.size = w.heap.size + 1 := by
 go_enter Try.func76, Try.ntmps76
 go_wp2
 go_ret
 exact ⟨rfl, by exact xx, by simp [go_sem], by simp⟩
/-- into which group the i-th runner is put -/
def partV (f s i : Nat) : Nat := if f.testBit i then 0 else if s.testBit i then 1 else 2
/-- the k-th group, of the first m runners -/
def grpK (L : List Int) (f s k m : Nat) : List Int := ((List.range m).filter fun i => decide (partV f s i = k)).map fun i => gt L i
def finsK (L : List Int) (f s : Nat) : List (List Int) := [grpK L f s 0 L.length, grpK L f s 1 L.length, grpK L f s 2 L.length].filter fun g => !g.isEmpty
def okFS (n f s : Nat) : Bool := decide (f &&& s = 0) && (decide (s ≠ 0) || decide (f = 2 ^ n - 1))
def finsOfF (L : List Int) (f m : Nat) : List (List (List Int)) := ((List.range m).filter fun s => okFS L.length f s).map fun s => finsK L f s
/-- what is yielded while the first group's number is below m -/
def finsTo (L : List Int) (m : Nat) : List (List (List Int)) := ((List.range m).filter fun f => decide (1 ≤ f)).flatMap fun f => finsOfF L f (2 ^ L.length)
def finsAll (L : List Int) : List (List (List Int)) := finsTo L (2 ^ L.length)
theorem grpK_succ (L : List Int) (f s k m : Nat) : grpK L f s k (m + 1) = grpK L f s k m ++ if partV f s m = k then [gt L m] else [] := by
 unfold grpK
 rw [List.range_succ, List.filter_append, List.map_append]
 congr 1
 by_cases h : partV f s m = k <;> simp [h]
theorem finsOfF_succ (L : List Int) (f m : Nat) : finsOfF L f (m + 1) = finsOfF L f m ++ if okFS L.length f m = true then [finsK L f m] else [] := by
 unfold finsOfF
 rw [List.range_succ, List.filter_append, List.map_append]
 congr 1
 by_cases h : okFS L.length f m = true <;> simp [h]
theorem finsTo_succ (L : List Int) (m : Nat) (h : 1 ≤ m) : finsTo L (m + 1) = finsTo L m ++ finsOfF L m (2 ^ L.length) := by
 unfold finsTo
 rw [List.range_succ, List.filter_append, List.flatMap_append]
 congr 1
 simp [h]
end Go.Proofs.Ytphajlldghcnnaa
namespace Go.Proofs.Ytphajlldghcnnaa
open Go.RowKit Go.Shelf

set_option maxHeartbeats 400000 in
theorem indexFuncLst (l : List (Value × List Int)) (sa : Option Addr) (cap : Nat) (f : Nat) (cs : Array Value) (p : (Value × List Int) → Bool) (w : World)
  (hl : l.length ≤ 9223372036854775807)
  (hs : l = [] ∨ ∃ b off, sa = some ⟨b, off, none⟩ ∧ ∀ i, (h : i < l.length) → w.cell? ⟨b, off + i, none⟩ = some (l[i].1))
  (hcall : ∀ args W, (callFunc f args).run Try.prog W = .ok (.enter f args) W)
  (hf : ∀ x, x ∈ l → ∀ W, Ext w W → Calls Try.prog f (#[x.1] ++ cs) W fun e W' => e = .returned (.bool (p x)) ∧ Ext W W') :
  Calls Try.prog 117 #[.slice sa l.length cap, .func (.func f) #[] cs] w fun e w' => e = .returned (.int .i64 (fidx p l)) ∧ Ext w w' := by
 have Hf := Lib.hid hf
 clear hf
 go_enter Try.func117, Try.ntmps117
 go_wp2
 go_loopw [8] (fun i W => ∃ k : Nat, k ≤ l.length ∧ i = .int .i64 k ∧ (∀ x ∈ l.take k, p x = false) ∧ Ext w W) (fun i _ => l.length - (intOf i).toNat)
 case atStart => exact ⟨0, Nat.zero_le _, rfl, by simp, Below.refl _ _⟩
 case round =>
  obtain ⟨k, hk, rfl, hno, hb⟩ := hrel
  have HN := Lib.hid hno
  clear hno
  by_cases hlt : k < l.length
  ·have hs' : ∃ b off, sa = some ⟨b, off, none⟩ ∧ ∀ i, (h : i < l.length) → w.cell? ⟨b, off + i, none⟩ = some (l[i].1) := by
    rcases hs with rfl | h
    ·simp at hlt
    ·exact h
   clear hs
   obtain ⟨b, off, rfl, hc⟩ := hs'
   have hc1 := hc k hlt
   have HC : Hid (∀ i, (h : i < l.length) → w.cell? ⟨b, off + i, none⟩ = some (l[i].1)) := Lib.hid hc
   clear hc
   have hcell := cell_ext hb hc1
   clear hc1
   go_wp2_with fail
   refine (Hf.out l[k] (List.getElem_mem hlt) _ hb).mono ?_
   rintro e W' ⟨rfl, hb'⟩
   cases hp : p l[k]
   ·go_wp2
    go_roundw
    case rel => exact ⟨k + 1, by omega, by go_num, take_ext hlt HN.out hp, hb.trans' hb'⟩
    case measure => simp [intOf]; omega
   ·go_wp2
    go_ret
    exact ⟨ret_int (fidx_at hlt HN.out hp).symm, hb.trans' hb'⟩
  ·go_wp2
   go_ret
   exact ⟨ret_int (fidx_none (take_all hlt HN.out)).symm, hb⟩

theorem elLst : El 36 23 1 := El.mk' (bytes := 24) (z := .slice none 0 0) (by kernel_rfl) (by kernel_rfl) rfl (by omega) (by omega)
/-- lists of numbers that a call has made: each slice's value, and its numbers -/
structure LL (W : World) (B : Nat) (v : Value) (ps : List (Value × List Int)) : Prop where
 own : Owns W B 23 1 v (ps.map fun x => [x.1])
 each : ∀ x ∈ ps, Owns W B 3 1 x.1 (x.2.map iRow)
theorem LL.nil (W : World) (B : Nat) : LL W B (.slice none 0 0) [] := ⟨Owns.nil _ _ _ _, by simp⟩
theorem LL.ext {W W' : World} {B : Nat} {v : Value} {ps : List (Value × List Int)} (h : LL W B v ps) (e : Ext W W') : LL W' B v ps := ⟨h.own.ext e, fun x hx => (h.each x hx).ext e⟩
theorem LL.base {W : World} {B B' : Nat} {v : Value} {ps : List (Value × List Int)} (h : LL W B v ps) (hB : B' ≤ B) : LL W B' v ps := ⟨h.own.base hB, fun x hx => (h.each x hx).base hB⟩
theorem LL.kept {S : Nat → Prop} {W W' : World} {B : Nat} {v : Value} {ps : List (Value × List Int)} (h : LL W B v ps) (k : Kept S W W') (hs : ∀ g, B ≤ g → S g) : LL W' B v ps :=
 ⟨h.own.keptAt k fun g _ hg _ _ => hs g hg, fun x hx => (h.each x hx).keptAt k fun g _ hg _ _ => hs g hg⟩
theorem one_rows {ps : List (Value × List Int)} : ∀ r ∈ ps.map (fun x => [x.1]), r.length = 1 := by
 intro r hr; obtain ⟨x, _, rfl⟩ := List.mem_map.1 hr; rfl
theorem ll_one {W : World} {B : Nat} {v : Value} {ps : List (Value × List Int)} (h : LL W B v ps) : ∀ r ∈ ps.map (fun x => [x.1]), ∀ u ∈ r, u.oneCell' = true := by
 intro r hr u hu
 obtain ⟨x, hx, rfl⟩ := List.mem_map.1 hr
 simp at hu
 subst hu
 obtain ⟨sa, n, cap, e⟩ := (h.each x hx).isSlice
 rw [e]; rfl
/-- the lists in a block, the first ones anew -/
structure DelB (W : World) (g sz : Nat) (ps : List (Value × List Int)) (p : (Value × List Int) → Bool) (k m : Nat) : Prop where
 hm : m = ((ps.take k).filter fun x => !p x).length
 blk : ∃ cur, W.heap[g]? = some (.cells cur 23 (0, 0)) ∧ cur.size = sz ∧ (∀ q, (h : q < m) → cur[q]? = some (((ps.take k).filter fun x => !p x)[q]'(by omega)).1) ∧ ∀ q, k ≤ q → (h : q < ps.length) → cur[q]? = some ps[q].1
theorem dlFilter_take {α : Type} (p : α → Bool) (l : List α) (k : Nat) (hk : k < l.length) : (l.take (k + 1)).filter p = (l.take k).filter p ++ if p l[k] then [l[k]] else [] := by
 rw [List.take_succ_eq_append_getElem hk, List.filter_append]
 congr 1
 simp [List.filter_cons]
theorem DelB.skip {W : World} {g sz : Nat} {ps : List (Value × List Int)} {p : (Value × List Int) → Bool} {k m : Nat} (d : DelB W g sz ps p k m) (hk : k < ps.length) (hp : p ps[k] = true) : DelB W g sz ps p (k + 1) m := by
 have e : (ps.take (k + 1)).filter (fun x => !p x) = (ps.take k).filter fun x => !p x := by rw [dlFilter_take _ _ _ hk]; simp [hp]
 obtain ⟨cur, h1, h2, h3, h4⟩ := d.blk
 refine ⟨by rw [e]; exact d.hm, cur, h1, h2, fun q hq => ?_, fun q h h' => h4 q (by omega) h'⟩
 rw [h3 q hq]
 congr 2
 exact (List.getElem_of_eq e.symm _)
theorem DelB.put {W : World} {g sz : Nat} {ps : List (Value × List Int)} {p : (Value × List Int) → Bool} {k m : Nat} (d : DelB W g sz ps p k m) (hk : k < ps.length) (hp : p ps[k] = false) (hm : m < k) (hs : ps.length ≤ sz) :
  DelB (W.setCell ⟨g, m, none⟩ ps[k].1) g sz ps p (k + 1) (m + 1) := by
 have e : (ps.take (k + 1)).filter (fun x => !p x) = ((ps.take k).filter fun x => !p x) ++ [ps[k]] := by rw [dlFilter_take _ _ _ hk]; simp [hp]
 obtain ⟨cur, h1, h2, h3, h4⟩ := d.blk
 have hm' := d.hm
 refine ⟨by rw [e]; simp [← hm'], cur.setIfInBounds m ps[k].1, heap_setCell_row h1 _ _, by simpa using h2, fun q hq => ?_, fun q h h' => ?_⟩
 ·have eq : (((ps.take (k + 1)).filter fun x => !p x)[q]'(by rw [e]; simp; omega)) = (((ps.take k).filter fun x => !p x) ++ [ps[k]])[q]'(by simp; omega) := List.getElem_of_eq e _
  rw [eq]
  by_cases hqm : q = m
  ·subst hqm
   rw [set_on _ (by omega), List.getElem_append_right (by omega)]
   simp
  ·rw [set_off _ (by omega), h3 q (by omega), List.getElem_append_left (by omega)]
 ·rw [set_off _ (by omega)]
  exact h4 q (by omega) h'
theorem DelB.ext {W W' : World} (e : Ext W W') {g sz : Nat} {ps : List (Value × List Int)} {p : (Value × List Int) → Bool} {k m : Nat} (d : DelB W g sz ps p k m) : DelB W' g sz ps p k m := by
 obtain ⟨cur, h1, h2⟩ := d.blk
 exact ⟨d.hm, cur, (e.block g (Array.getElem?_eq_some_iff.1 h1).1).trans h1, h2⟩
theorem zeroLst (w : World) : (zeroValue 23).run Try.prog w = .ok (.slice none 0 0) w := by kernel_rfl
theorem dlCells_row {g : Nat} {t : TypeId} : ∀ (l : List Value) (o : Nat) (W : World) (cur : Array Value), W.heap[g]? = some (.cells cur t (0, 0)) → ∃ cur', (W.setCells g o l).heap[g]? = some (.cells cur' t (0, 0)) ∧ cur'.size = cur.size ∧ ∀ q, q < o → cur'[q]? = cur[q]?
 | [], o, W, cur, h => ⟨cur, h, rfl, fun _ _ => rfl⟩
 | v :: l, o, W, cur, h => by
  rw [World.setCells]
  obtain ⟨cur', h1, h2, h3⟩ := dlCells_row l (o + 1) _ _ (heap_setCell_row h o v)
  exact ⟨cur', h1, by simpa using h2, fun q hq => by rw [h3 q (by omega), set_off _ (by omega)]⟩
theorem dlKept_setCells {g : Nat} {w : World} : ∀ (l : List Value) (o : Nat) {W : World}, Kept (fun k => k ≠ g) w W → Kept (fun k => k ≠ g) w (W.setCells g o l)
 | [], _, _, h => h
 | v :: l, o, _, h => dlKept_setCells l (o + 1) (h.setCell (p := ⟨g, o, none⟩) (fun _ hh => hh rfl) v)
theorem ownBlock_some (g n cap : Nat) : (fun k => some k ≠ (Value.slice (some ⟨g, 0, none⟩) n cap).ownBlock) = fun k => k ≠ g := by
 funext k
 simp [Value.ownBlock]

set_option maxRecDepth 100000 in
set_option maxHeartbeats 4000000 in
theorem delete_some (ps : List (Value × List Int)) (g cap f : Nat) (cs : Array Value) (p : (Value × List Int) → Bool) (B : Nat) (w : World) (hv : LL w B (.slice (some ⟨g, 0, none⟩) ps.length cap) ps)
  (hcall : ∀ args W, (callFunc f args).run Try.prog W = .ok (.enter f args) W)
  (hf : ∀ x, x ∈ ps → ∀ W, Kept (fun k => k ≠ g) w W → Calls Try.prog f (#[x.1] ++ cs) W fun e W' => e = .returned (.bool (p x)) ∧ Ext W W') :
  Calls Try.prog 99 #[.slice (some ⟨g, 0, none⟩) ps.length cap, .func (.func f) #[] cs] w fun e w' =>
   ∃ v', e = .returned v' ∧ Kept (fun k => k ≠ g) w w' ∧ LL w' B v' (ps.filter fun x => !p x) := by
 obtain ⟨sa0, cap0, e0, hl1, hl2, -⟩ := hv.own.form
 have hll : (ps.map fun x => [x.1]).length = ps.length := by simp
 rw [hll] at hl1 e0
 cases e0
 have hbase := hv.own.1.2
 obtain ⟨cur, hBg, hg, hcs, hcells⟩ : ∃ cur, B ≤ g ∧ w.heap[g]? = some (.cells cur 23 (0, 0)) ∧ cur.size = cap ∧ ∀ q, (h : q < ps.length) → cur[q]? = some ps[q].1 := by
  obtain ⟨_, h2⟩ := hv.own.1
  rcases h2 with ⟨e, _⟩ | ⟨g', cap', cur, e, hb, hg, hc, _, hs, ht⟩
  ·cases e
  ·simp only [Value.slice.injEq, Option.some.injEq, Addr.mk.injEq] at e
   obtain ⟨⟨rfl, _⟩, _, rfl⟩ := e
   refine ⟨cur, hb, hg, by omega, fun q hq => ?_⟩
   have h5 := (hv.own.src).2
   rcases h5 with ⟨h5, _⟩ | ⟨b, off, h5, h6⟩
   ·cases h5
   ·cases h5
    have h7 := h6 q (by simpa using hq) 0 (by simp)
    rw [cell_of_row _ _ _ _ _ _ hg] at h7
    simpa using h7
 have hgl : g < w.heap.size := (Array.getElem?_eq_some_iff.1 hg).1
 have HV := Lib.hid hv
 have HF := Lib.hid hf
 have HC := Lib.hid hcells
 have HG := Lib.hid hg
 have hid := indexFuncLst ps (some ⟨g, 0, none⟩) cap f cs p w (by omega) (.inr ⟨g, 0, rfl, fun i hi => by rw [cell_of_row _ _ _ _ _ _ hg, Nat.zero_add]; exact hcells i hi⟩) hcall (fun x hx W hW => HF.out x hx W (Kept.of_below hW))
 have HID := Lib.hid hid
 clear hv hf hcells hg hid hbase
 go_enter Try.func99, Try.ntmps99
 go_wp2_with fail
 refine callGr HID.out fun g0 => ?_
 cases hfi : ps.findIdx? p with
 | none =>
  have hno : ∀ x ∈ ps, p x = false := fun x hx => by
   have := (List.findIdx?_eq_none_iff.1 hfi) x hx; simpa using this
  have hfx : fidx p ps = -1 := by simp [fidx, hfi]
  have HNO := Lib.hid hno
  rw [hfx]
  clear hfi hfx hno
  go_wp2_with fail
  go_ret
  refine ⟨_, rfl, Kept.of_below (grow_below w g0), ?_⟩
  have e : (ps.filter fun x => !p x) = ps := List.filter_eq_self.2 fun x hx => by simp [HNO.out x hx]
  rw [e]
  exact HV.out.ext (grow_below w g0)
 | some i0 =>
  obtain ⟨hi0, hp0, hbef⟩ := List.findIdx?_eq_some_iff_getElem.1 hfi
  have hfx : fidx p ps = (i0 : Int) := by simp [fidx, hfi]
  rw [hfx]
  have hstart : DelB (grow w g0) g cap ps p (i0 + 1) i0 := by
   have e : ((ps.take i0).filter fun x => !p x) = ps.take i0 := List.filter_eq_self.2 fun x hx => by
    obtain ⟨j, hj, rfl⟩ := List.mem_take_iff_getElem.1 hx
    have := hbef j (by omega)
    simpa using this
   have hd : DelB (grow w g0) g cap ps p i0 i0 := by
    refine ⟨by rw [e, List.length_take]; omega, cur, ?_, hcs, fun q hq => ?_, fun q h h' => HC.out q h'⟩
    ·exact ((grow_below w g0).block _ hgl).trans HG.out
    ·rw [HC.out q (by omega)]
     congr 2
     have := List.getElem_of_eq e (i := q) (by rw [e, List.length_take]; omega)
     rw [this]
     simp
   exact hd.skip hi0 hp0
  have HST := Lib.hid hstart
  have hne : (((i0 : Int)) == -1) = false := by simp
  clear hfi hfx hbef hstart
  go_wp2_with fail
  have HK0 := Lib.hid (Kept.of_below (S := fun k => k ≠ g) (grow_below w g0))
  generalize grow w g0 = w0 at *
  go_loopw [5, 6] (fun i j W => ∃ k m : Nat, k ≤ ps.length ∧ m < k ∧ i = .int .i64 m ∧ j = .int .i64 k ∧ Kept (fun k => k ≠ g) w W ∧ DelB W g cap ps p k m) (fun _ j _ => ps.length - (intOf j).toNat)
  case atStart => exact ⟨i0 + 1, i0, by omega, by omega, rfl, by go_num, HK0.out, HST.out⟩
  case round =>
   obtain ⟨k, m, hk, hmk, rfl, rfl, hK, hD⟩ := hrel
   have HK := Lib.hid hK
   have HD := Lib.hid hD
   by_cases hlt : k < ps.length
   ·obtain ⟨cur', d1, d2, d3, d4⟩ := hD.blk
    have hck : wr.cell? ⟨g, k, none⟩ = some ps[k].1 := by rw [cell_of_row _ _ _ _ _ _ d1]; exact d4 k (Nat.le_refl _) hlt
    have hgw : g < wr.heap.size := (Array.getElem?_eq_some_iff.1 d1).1
    obtain ⟨sx, nx, cx, hx⟩ := (HV.out.each ps[k] (List.getElem_mem hlt)).isSlice
    have hcl := HF.out ps[k] (List.getElem_mem hlt) wr hK
    have HX := Lib.hid hx
    rw [hx] at hck hcl
    have HCL := Lib.hid hcl
    obtain ⟨vm, hvm⟩ : ∃ vm, cur'[m]? = some vm := ⟨cur'[m]'(by omega), Array.getElem?_eq_getElem _⟩
    have hcm : wr.cell? ⟨g, m, none⟩ = some vm := by rw [cell_of_row _ _ _ _ _ _ d1]; exact hvm
    have hfr : wr.frozen? ⟨g, m, none⟩ = false := by simp [World.frozen?, d1]
    clear hK hD d1 d2 d3 d4 hx hcl hvm
    go_wp2_with fail
    refine callGr HCL.out fun g1 => ?_
    have hd2 := (HD.out : DelB wr g cap ps p k m).ext (grow_below wr g1)
    have HD2 := Lib.hid hd2
    have HK2 := Lib.hid (Kept.trans (HK.out : Kept (fun k => k ≠ g) w wr) (Kept.of_below (grow_below wr g1)))
    clear hd2
    cases hp : p ps[k]
    ·have HP := Lib.hid hp
     clear hp
     go_wp2_with fail
     go_roundw
     case rel =>
      refine ⟨k + 1, m + 1, by omega, by omega, by go_num, by go_num, HK2.out.setCell (fun _ hh => hh rfl) _, ?_⟩
      have := HD2.out.put hlt HP.out hmk (by omega)
      rwa [HX.out] at this
     case measure => simp [intOf]; omega
    ·have HP := Lib.hid hp
     clear hp
     go_wp2_with fail
     go_roundw
     case rel => exact ⟨k + 1, m, by omega, by omega, rfl, by go_num, HK2.out, HD2.out.skip hlt HP.out⟩
     case measure => simp [intOf]; omega
   ·obtain rfl : k = ps.length := by omega
    have hcm : ¬ cap = m := by omega
    obtain ⟨cur', d1, d2, d3, d4⟩ := hD.blk
    have hclr : ∀ ty, (Builtin.clear_ #[36] ty #[.slice (some ⟨g, m, none⟩) (ps.length - m) (cap - m)]).run Try.prog wr = .ok (.tuple #[]) (wr.setCells g m (List.replicate (ps.length - m) (.slice none 0 0))) := fun ty =>
     Lib.run_clear_slice _ 36 23 ty (.slice none 0 0) (by kernel_rfl) zeroLst rfl rfl g m (ps.length - m) (cap - m) (by omega) (fun j hj => by rw [cell_of_row _ _ _ _ _ _ d1, Array.getElem?_eq_getElem (by omega)]; rfl) (fun j hj => by simp [World.frozen?, d1])
    clear hK hD d1 d2 d3 d4
    go_wp2_with (simp only [hclr])
    go_ret
    obtain ⟨cur', d1, d2, d3, d4⟩ := (HD.out : DelB wr g cap ps p ps.length m).blk
    obtain ⟨cur2, e1, e2, e3⟩ := dlCells_row (List.replicate (ps.length - m) (.slice none 0 0)) m wr cur' d1
    have hKK := dlKept_setCells (List.replicate (ps.length - m) (.slice none 0 0)) m (HK.out : Kept (fun k => k ≠ g) w wr)
    have hm := (HD.out : DelB wr g cap ps p ps.length m).hm
    have ht : ps.take ps.length = ps := List.take_length
    have hm2 : m = (ps.filter fun x => !p x).length := by rw [hm, ht]
    refine ⟨_, rfl, hKK, ⟨⟨?_, fun r hr => one_rows r hr⟩, fun x hx => ?_⟩⟩
    ·refine ⟨flatten_len one_rows, .inr ⟨g, cap, cur2, by rw [hm2]; simp, hBg, e1, by simp; omega, by simpa [maxLen] using hl2, by omega, ?_⟩⟩
     apply List.ext_getElem?
     intro q
     have hfl : ((ps.filter fun x => !p x).map fun x => [x.1]).flatten = (ps.filter fun x => !p x).map (·.1) := by
      induction (ps.filter fun x => !p x) with
      | nil => rfl
      | cons a l ih => simp only [List.map_cons, List.flatten_cons, ih]; rfl
     rw [hfl, List.length_map, Nat.mul_one, List.getElem?_take]
     by_cases hq : q < m
     ·rw [if_pos (by omega)]
      have h3 := d3 q hq
      have h4 := e3 q hq
      rw [h3] at h4
      rw [Array.getElem?_toList, h4]
      have e5 : ((ps.take ps.length).filter fun x => !p x) = ps.filter fun x => !p x := by rw [ht]
      rw [List.getElem?_map, List.getElem?_eq_getElem (by omega)]
      simp only [Option.map_some, Option.some.injEq]
      congr 1
      exact List.getElem_of_eq e5 _
     ·rw [if_neg (by omega), List.getElem?_eq_none (by simp; omega)]
    ·have hx' := (List.mem_filter.1 hx).1
     refine (HV.out.each x hx').keep (by decide) HV.out.own ?_
     rw [ownBlock_some]
     exact hKK

theorem finsEmpty_any (v : Value) (l : List Int) (w : World) (h : IsInts w .i64 v l) :
  Calls Try.prog 100 #[v] w fun e w' => e = .returned (.bool l.isEmpty) ∧ Ext w w' := by
 obtain ⟨sa, cap, rfl, h1, h2, -⟩ := h.spec
 obtain ⟨n, hn⟩ : ∃ n, n = l.length := ⟨_, rfl⟩
 have he : l.isEmpty = decide (n = 0) := by rw [hn]; cases l <;> simp
 rw [he, ← hn]
 clear hn he h h1 h2
 go_enter Try.func100, Try.ntmps100
 go_wp2_with fail
 go_ret
 exact ⟨by rw [show ((n : Int) == 0) = decide (n = 0) by rw [Bool.eq_iff_iff]; simp]; rfl, Below.refl _ _⟩
end Go.Proofs.Ytphajlldghcnnaa
namespace Go.Proofs.Ytphajlldghcnnaa
open Go.RowKit Go.Shelf
theorem elBet : El 22 62 3 := El.mk' (bytes := 24) (z := .agg #[.int .i64 0, .int .i64 0, .int .i64 0]) (by kernel_rfl) (by kernel_rfl) rfl (by omega) (by omega)
theorem run_copy_rows {P : Program} (w : World) (dT sT ty elem : TypeId) (g dLen dCap sLen sCap sz : Nat) (a : Addr) (cur : Array Value) (t : TypeId) (cs : List Value)
  (hu : P.underlying dT = some (.slice elem)) (hs : (P.info? elem).map (·.size) = some sz) (hg : w.heap[g]? = some (.cells cur t (0, 0))) (hn : cs.length = Nat.min sLen dLen * sz)
  (hsrc : ∀ j v, cs[j]? = some v → w.cell? (a.add j) = some v) (hfit : cs.length ≤ cur.size) (h1 : ∀ v ∈ cs, v.oneCell' = true) :
  (Builtin.copy_ #[dT, sT] ty #[.slice (some ⟨g, 0, none⟩) dLen dCap, .slice (some a) sLen sCap]).run P w =
   .ok (goInt (Nat.min sLen dLen)) (w.setRow g (cs ++ cur.toList.drop cs.length).toArray) := by
 have hl := run_loadCells_list (P := P) w a cs hsrc
 have hst := run_storeCells_at P g 0 t cs 0 cur w hg (by simpa using hfit) h1
 cases hq : P.info? elem with
 | none => simp [hq] at hs
 | some i =>
  have hi : i.size = sz := by simpa [hq] using hs
  simp only [Nat.zero_add, List.take_zero, List.nil_append] at hst
  simp [Builtin.copy_, run_underlying hu, Builtin.lenOf, Builtin.firstCells, sizeOf, typeInfo, hq, hi, ← hn, hl, hst]
theorem run_copy_none {P : Program} (w : World) (dT sT ty elem : TypeId) (a : Addr) (dLen dCap c : Nat) (hu : P.underlying dT = some (.slice elem)) (hs : ((P.info? elem).map (·.size)).isSome = true) :
  (Builtin.copy_ #[dT, sT] ty #[.slice (some a) dLen dCap, .slice none 0 c]).run P w = .ok (goInt 0) w := by
 cases hq : P.info? elem with
 | none => simp [hq] at hs
 | some i => simp [Builtin.copy_, run_underlying hu, Builtin.lenOf, Builtin.firstCells, sizeOf, typeInfo, hq, storeCells]
/-- a new list of bets -/
theorem make_bets (w : World) (N : Nat) (hN : N ≤ 1000) : ∃ w' cur, (Instr.makeSlice 22 (.int .i64 (N : Int)) (.int .i64 (N : Int))).run Try.prog w = .ok (.slice (some ⟨w.heap.size, 0, none⟩) N N) w' ∧ w'.heap[w.heap.size]? = some (.cells cur 62 (0, 0)) ∧ cur.size = N * 3 ∧ Ext w w' := by
 obtain ⟨i, z, hi, hz, hsi, hby, hzs⟩ := elBet.info
 obtain ⟨w', hrun, hown, hg⟩ := run_makeSlice_full (P := Try.prog) w w.heap.size 22 62 i z 3 elBet.und hi hz hsi .i64 .i64 N (by omega) (by have := Nat.mul_le_mul hby hN; omega) (by simp [maxLen]; omega) (Nat.le_refl _)
 rcases hown.2 with ⟨h0, _⟩ | ⟨g, cap, cur, hv, hb, hgc, hr⟩
 ·cases h0
 ·cases hv
  refine ⟨w', cur, hrun, hgc, ?_, (Below.refl _ w).grown hg (Nat.le_refl _) fun k hk => by cases hk⟩
  exact hr.2.2.1
theorem copy_bets (w : World) (g _ : Nat) (cur : Array Value) (l : List PB) (ba : Option Addr) (bcap : Nat) (ty : TypeId) (hg : w.heap[g]? = some (.cells cur 62 (0, 0))) (hc : cur.size = l.length * 3) (hl : IsBets w (.slice ba l.length bcap) l) (h9 : l.length ≤ 1000) :
  ∃ w', (Builtin.copy_ #[22, 22] ty #[.slice (some ⟨g, 0, none⟩) l.length l.length, .slice ba l.length bcap]).run Try.prog w = .ok (goInt l.length) w' ∧ Kept (fun k => k ≠ g) w w' ∧ IsBets w' (.slice (some ⟨g, 0, none⟩) l.length l.length) l := by
 have hlen : ((l.map betRow).flatten).length = l.length * 3 := by
  have := flatten_len (rows := l.map betRow) (sz := 3) (by intro r hr; obtain ⟨x, _, rfl⟩ := List.mem_map.1 hr; rfl)
  rw [List.length_map] at this
  exact this
 have hfin : ∀ w' : World, w'.heap[g]? = some (.cells ((l.map betRow).flatten ++ cur.toList.drop ((l.map betRow).flatten).length).toArray 62 (0, 0)) → IsBets w' (.slice (some ⟨g, 0, none⟩) l.length l.length) l := fun w' hw => by
  have ho : Owns w' 0 62 3 (.slice (some ⟨g, 0, none⟩) l.length l.length) (l.map betRow) := by
   refine ⟨⟨?_, .inr ⟨g, l.length, _, by rw [List.length_map], by omega, hw, by rw [List.length_map]; exact Nat.le_refl _, by simp [maxLen]; omega, ?_, ?_⟩⟩, fun r hr => by obtain ⟨x, _, rfl⟩ := List.mem_map.1 hr; rfl⟩
   ·rw [hlen, List.length_map]
   ·simp only [List.size_toArray, List.length_append, List.length_drop, Array.length_toList]
    omega
   ·rw [List.length_map, ← hlen]
    simp
  exact ho.isRows
 obtain ⟨sa, cap, e, h2, h3, h4⟩ := hl
 simp only [Value.slice.injEq] at e
 obtain ⟨rfl, -, rfl⟩ := e
 have hkr : ∀ cs, Kept (fun k => k ≠ g) w (w.setRow g cs) := fun cs => ⟨rfl, rfl, rfl, by simp [World.setRow], fun k _ hne => setRow_other w g k cs hne⟩
 rcases h4 with h4 | ⟨b, off, rfl, h4⟩
 ·have h0 : l = [] := by simpa using h4
  subst h0
  have hnil : ∀ w' : World, IsBets w' (.slice (some ⟨g, 0, none⟩) 0 0) [] := fun w' => ⟨_, _, rfl, by simp, by simp, .inl rfl⟩
  cases ba with
  | none => exact ⟨w, run_copy_none w 22 22 ty 62 ⟨g, 0, none⟩ 0 0 bcap elBet.und (by kernel_rfl), Kept.refl _ _, hnil _⟩
  | some a =>
   have hr := run_copy_rows (P := Try.prog) w 22 22 ty 62 g 0 0 0 bcap 3 a cur 62 [] elBet.und (by kernel_rfl) hg rfl (fun j v hj => by simp at hj) (by simp) (fun v hv => by simp at hv)
   exact ⟨_, hr, hkr _, hnil _⟩
 ·have hr := run_copy_rows (P := Try.prog) w 22 22 ty 62 g l.length l.length l.length bcap 3 ⟨b, off, none⟩ cur 62 (l.map betRow).flatten elBet.und (by kernel_rfl) hg (by rw [hlen, show Nat.min l.length l.length = l.length from Nat.min_self _])
   (fun j v hj => by rw [addr_add]; exact rows_flat (by intro r hr; obtain ⟨x, _, rfl⟩ := List.mem_map.1 hr; rfl) h4 j v hj) (by rw [hlen, hc]; exact Nat.le_refl _) (fun v hv => by
    obtain ⟨r, hr, hv⟩ := List.mem_flatten.1 hv
    obtain ⟨x, _, rfl⟩ := List.mem_map.1 hr
    simp [betRow] at hv
    rcases hv with rfl | rfl | rfl <;> rfl)
  rw [show Nat.min l.length l.length = l.length from Nat.min_self _] at hr
  exact ⟨_, hr, hkr _, hfin _ (setRow_heap w g _ _ _ _ hg)⟩
/-- append one number onto a list that is cut to its length: a new list -/
theorem app_one (w : World) (sa : Option Addr) (scap : Nat) (l : List Int) (ty : TypeId) (hl : IsInts w .i64 (.slice sa l.length scap) l) (h9 : l.length ≤ 1000) (b : Nat) (x : Int) (hc : RowsAt w 1 b 0 [iRow x]) :
  ∃ v' w', (Builtin.append_ #[23, 23] ty #[.slice sa l.length l.length, .slice (some ⟨b, 0, none⟩) 1 1]).run Try.prog w = .ok v' w' ∧ Owns w' w.heap.size 3 1 v' ((l ++ [x]).map iRow) ∧ Ext w w' := by
 obtain ⟨_, _, e, h1, h2, h3⟩ := hl.spec
 simp only [Value.slice.injEq] at e
 obtain ⟨rfl, -, rfl⟩ := e
 have hI : ∀ r ∈ l.map iRow, r.length = 1 := fun r hr => by obtain ⟨y, _, rfl⟩ := List.mem_map.1 hr; rfl
 rw [List.map_append]
 obtain ⟨i, z, hi, hz, hsi, hby, hzs⟩ := elInt.info
 have hr1 : ∀ r ∈ [iRow x], r.length = 1 := fun r hr => by rw [List.mem_singleton.1 hr]; rfl
 have hfl : ∀ j u, [iRow x].flatten[j]? = some u → w.cell? ((⟨b, 0, none⟩ : Addr).add j) = some u := fun j u hj => by rw [addr_add]; exact rows_flat hr1 hc j u hj
 rcases h3 with h3 | ⟨bb, off, rfl, h3⟩
 ·subst h3
  cases sa with
  | none => exact app_full elInt ty none 0 0 rfl (by simp) (.inl ⟨rfl, rfl, rfl⟩) b 0 1 [iRow x] hr1 hc (by simp [iRow, Value.oneCell']) (by simp) (by simp)
  | some a =>
   obtain ⟨v', w', hrun, ho, hg2⟩ := run_append_arg_grows (P := Try.prog) w 23 ty 3 i z 1 i.bytes elInt.und hi hz hsi rfl hzs elInt.pos a 0 0 [] rfl
    (fun j u hj => by simp at hj) ⟨b, 0, none⟩ 1 1 [iRow x].flatten rfl hfl (by omega) (by simp [maxLen]) (by omega)
   exact ⟨v', w', hrun, ⟨by simpa using ho, by simpa using hr1⟩, (Below.refl _ w).grown hg2 (Nat.le_refl _) fun k hk => by cases hk⟩
 ·refine app_full elInt ty (some ⟨bb, off, none⟩) l.length l.length (by simp) hI (.inr ⟨bb, off, rfl, ?_⟩) b 0 1 [iRow x] hr1 hc (by simp [iRow, Value.oneCell']) (by simp) (by simp; omega)
  obtain ⟨_, _, e, _, _, h4⟩ := hl
  simp only [Value.slice.injEq] at e
  obtain ⟨e, -, -⟩ := e
  rcases h4 with h4 | ⟨b2, o2, e2, h4⟩
  ·have h0 : l = [] := by simpa using h4
   subst h0
   exact fun i hi => by simp at hi
  ·rw [← e] at e2
   cases e2
   exact h4
theorem IsRows.kept {S : Nat → Prop} {w w' : World} (k : Kept S w w') {sz : Nat} {v : Value} {rows : List (List Value)} (hb : rows = [] ∨ ∀ g, v.ownBlock = some g → S g) (hr : IsRows w sz v rows) : IsRows w' sz v rows := by
 obtain ⟨sa, cap, h1, h2, h3, h4⟩ := hr
 refine ⟨sa, cap, h1, h2, h3, ?_⟩
 rcases h4 with h4 | ⟨b, off, e, h4⟩
 ·exact .inl h4
 ·rcases hb with hb | hb
  ·exact .inl hb
  ·exact .inr ⟨b, off, e, fun i hi j hj => k.cell (h4 i hi j hj) (hb b (by rw [h1, e]; rfl))⟩
theorem wpAppRun {w : World} {ops : Array Oper} {rest : List Oper} {o : Oper} {a : Act} {Q : Exit → Act → World → Prop} (hgd : o.guard = none) (s x : Operand) {t : TypeId}
  (ho : o.op = .call { callee := .builtin .append, args := #[s, x], argTypes := #[t, t] }) {vs vx v' : Value} {w' : World} (hs : a.eval s = vs) (hx : a.eval x = vx) (hrun : (Builtin.append_ #[t, t] o.type #[vs, vx]).run Try.prog w = .ok v' w')
  (h : wpList Try.prog ops Q rest (a.put o.dst v') w') : wpList Try.prog ops Q (o :: rest) a w :=
 wpList_plain hgd fun K hK => by
  unfold Oper.wp execOp
  simp only [ho, resolve, invoke, builtin, Sem.run_bind, Sem.run_pure, Result.andThen_ok, List.map_toArray, List.map_cons, List.map_nil, hs, hx, hrun]
  exact hK _ _ h
end Go.Proofs.Ytphajlldghcnnaa
namespace Go.Proofs.Ytphajlldghcnnaa
open Go.RowKit Go.Shelf
structure GrpM (W : World) (B gb : Nat) (vs : Nat → Value) (ls : Nat → List Int) : Prop where
 hB : B ≤ gb
 blk : ∃ cur : Array Value, W.heap[gb]? = some (.cells cur 23 (0, 0)) ∧ cur.size = 3 ∧ ∀ j, j < 3 → cur[j]? = some (vs j)
 own : ∀ j, j < 3 → Owns W B 3 1 (vs j) ((ls j).map iRow)
 far : ∀ i j, i < 3 → j < 3 → i ≠ j → ∀ g, (vs i).ownBlock = some g → (vs j).ownBlock ≠ some g
theorem GrpM.lt {W : World} {B gb : Nat} {vs : Nat → Value} {ls : Nat → List Int} (h : GrpM W B gb vs ls) : gb < W.heap.size := by
 obtain ⟨cur, h1, _⟩ := h.blk
 exact (Array.getElem?_eq_some_iff.1 h1).1
theorem GrpM.cell {W : World} {B gb : Nat} {vs : Nat → Value} {ls : Nat → List Int} (h : GrpM W B gb vs ls) (j : Nat) (hj : j < 3) : W.cell? ⟨gb, j, none⟩ = some (vs j) := by
 obtain ⟨cur, h1, _, h2⟩ := h.blk
 rw [cell_of_row _ _ _ _ _ _ h1]
 exact h2 j hj
theorem GrpM.free {W : World} {B gb : Nat} {vs : Nat → Value} {ls : Nat → List Int} (h : GrpM W B gb vs ls) (o : Nat) : W.frozen? ⟨gb, o, none⟩ = false := by
 obtain ⟨cur, h1, _⟩ := h.blk
 simp [World.frozen?, h1]
theorem GrpM.ext {W W' : World} (e : Ext W W') {B gb : Nat} {vs : Nat → Value} {ls : Nat → List Int} (h : GrpM W B gb vs ls) : GrpM W' B gb vs ls := by
 obtain ⟨cur, h1, h2⟩ := h.blk
 exact ⟨h.hB, ⟨cur, (e.block gb h.lt).trans h1, h2⟩, fun j hj => (h.own j hj).ext e, h.far⟩
theorem GrpM.other {W : World} {B gb : Nat} {vs : Nat → Value} {ls : Nat → List Int} (h : GrpM W B gb vs ls) {j : Nat} (hj : j < 3) : (vs j).ownBlock ≠ some gb := by
 intro e
 obtain ⟨cur, h1, _⟩ := h.blk
 rcases (h.own j hj).1.2 with ⟨a, _⟩ | ⟨g, cap, cur', hv, hb, hg, hr⟩
 ·rw [a] at e; cases e
 ·rw [hv] at e
  cases e
  rw [hg] at h1
  have := (Obj.cells.inj (Option.some.inj h1)).2.1
  exact absurd this (by decide)
theorem GrpM.put {W W1 : World} {B gb : Nat} {vs : Nat → Value} {ls : Nat → List Int} (h : GrpM W B gb vs ls) {j : Nat} (hj : j < 3) {v' : Value} {l : List Int} (ho : Owns W1 B 3 1 v' (l.map iRow))
  (hk : Kept (fun k => some k ≠ (vs j).ownBlock) W W1) (hat : ∀ g, v'.ownBlock = some g → (vs j).ownBlock = some g ∨ W.heap.size ≤ g) : GrpM (W1.setCell ⟨gb, j, none⟩ v') B gb (upd vs j v') (upd ls j l) := by
 obtain ⟨cur, h1, h2, h3⟩ := h.blk
 have hg1 : W1.heap[gb]? = some (.cells cur 23 (0, 0)) := (hk.same gb h.lt (fun e => h.other hj e.symm)).trans h1
 refine ⟨h.hB, ⟨cur.setIfInBounds j v', heap_setCell_row hg1 _ _, by simpa using h2, fun i hi => ?_⟩, fun i hi => ?_, fun i k hi hk' hne g => ?_⟩
 ·unfold upd
  by_cases e : i = j
  ·subst e; rw [if_pos rfl, set_on _ (by omega)]
  ·rw [if_neg e, set_off _ (fun e' => e e'.symm), h3 i hi]
 ·unfold upd
  by_cases e : i = j
  ·subst e; rw [if_pos rfl, if_pos rfl]; exact ho.setOther hg1 (by decide) _ _
  ·rw [if_neg e, if_neg e]
   exact ((h.own i hi).keptAt hk fun g _ _ hg _ e' => h.far i j hi hj e g hg e'.symm).setOther hg1 (by decide) _ _
 ·unfold upd
  by_cases e : i = j
  ·subst e
   rw [if_pos rfl, if_neg (fun e => hne e.symm)]
   intro hg hg2
   rcases hat g hg with h5 | h5
   ·exact h.far i k hi hk' hne g h5 hg2
   ·have := ((h.own k hk').notOwn g hg2).2; omega
  ·rw [if_neg e]
   by_cases e2 : k = j
   ·subst e2
    rw [if_pos rfl]
    intro hg hg2
    rcases hat g hg2 with h5 | h5
    ·exact h.far i k hi hk' hne g hg h5
    ·have := ((h.own i hi).notOwn g hg).2; omega
   ·rw [if_neg e2]
    exact h.far i k hi hk' hne g
/-- a new slice of three empty lists -/
theorem make_lists (w : World) : ∃ w', (Instr.makeSlice 36 (.int .i64 3) (.int .i64 3)).run Try.prog w = .ok (.slice (some ⟨w.heap.size, 0, none⟩) 3 3) w' ∧ GrpM w' w.heap.size w.heap.size (fun _ => .slice none 0 0) (fun _ => []) ∧ Ext w w' := by
 obtain ⟨i, z, hi, hz, hsi, hby, hzs⟩ := elLst.info
 have hz0 : z = .slice none 0 0 := by
  have h1 : (Try.prog.info? 23).bind (fun i => i.zero) = some (.slice none 0 0) := by kernel_rfl
  rw [hi] at h1
  simp only [Option.bind_some] at h1
  rw [hz] at h1
  exact Option.some.inj h1
 obtain ⟨w', hrun, hown, hg⟩ := run_makeSlice_full (P := Try.prog) w w.heap.size 36 23 i z 1 elLst.und hi hz hsi .i64 .i64 3 (by omega) (by have := Nat.mul_le_mul hby (Nat.le_refl 3); omega) (by simp [maxLen]) (Nat.le_refl _)
 refine ⟨w', hrun, ⟨Nat.le_refl _, ?_, fun j _ => Owns.nil _ _ _ _, fun _ _ _ _ _ g hg => by cases hg⟩, (Below.refl _ w).grown hg (Nat.le_refl _) fun k hk => by cases hk⟩
 rcases hown.2 with ⟨h0, _⟩ | ⟨g, cap, cur, hv, hb, hgc, hr1, hr2, hr3, hr4⟩
 ·cases h0
 ·cases hv
  refine ⟨cur, hgc, hr3, fun j hj => ?_⟩
  rw [hz0] at hr4
  have e : cur.toList[j]? = (cur.toList.take (3 * 1))[j]? := by rw [List.getElem?_take, if_pos (by omega)]
  rw [← Array.getElem?_toList, e, hr4]
  rw [Array.getElem?_toList]
  simp [madeCells, Value.cells, hj, Nat.mod_one]
def grpPs (vs : Nat → Value) (ls : Nat → List Int) : List (Value × List Int) := [(vs 0, ls 0), (vs 1, ls 1), (vs 2, ls 2)]
theorem GrpM.ll {W : World} {B gb : Nat} {vs : Nat → Value} {ls : Nat → List Int} (h : GrpM W B gb vs ls) : LL W B (.slice (some ⟨gb, 0, none⟩) 3 3) (grpPs vs ls) := by
 obtain ⟨cur, h1, h2, h3⟩ := h.blk
 refine ⟨⟨⟨by simp [grpPs], .inr ⟨gb, 3, cur, rfl, h.hB, h1, by simp [grpPs], by simp [maxLen], by omega, ?_⟩⟩, fun r hr => one_rows r hr⟩, fun x hx => ?_⟩
 ·apply List.ext_getElem?
  intro q
  rw [List.getElem?_take]
  match q with
  | 0 => simpa [grpPs] using h3 0 (by omega)
  | 1 => simpa [grpPs] using h3 1 (by omega)
  | 2 => simpa [grpPs] using h3 2 (by omega)
  | q + 3 => simp [grpPs]; omega
 ·unfold grpPs at hx
  simp only [List.mem_cons, List.not_mem_nil, or_false] at hx
  rcases hx with rfl | rfl | rfl
  ·exact h.own 0 (by omega)
  ·exact h.own 1 (by omega)
  ·exact h.own 2 (by omega)
theorem LL.fin {W : World} {B : Nat} {v : Value} {ps : List (Value × List Int)} (h : LL W B v ps) : IsFin W v ps := ⟨h.own.isRows, fun x hx => (h.each x hx).oneInts⟩
theorem ps_fins (vs : Nat → Value) (L : List Int) (f s : Nat) : finsOf ((grpPs vs fun k => grpK L f s k L.length).filter fun x => !x.2.isEmpty) = finsK L f s := by
 unfold finsOf finsK grpPs
 simp only [List.filter_cons, List.filter_nil]
 cases (grpK L f s 0 L.length).isEmpty <;> cases (grpK L f s 1 L.length).isEmpty <;> cases (grpK L f s 2 L.length).isEmpty <;> simp
/-- one bit of a number -/
theorem bits_and1 (n : Nat) (_ : n ≤ 4294967295) : bits .and .i64 (n : Int) 1 = ((n % 2 : Nat) : Int) := by
 have e : (BitVec.ofInt IntKind.i64.bits (n : Int) &&& BitVec.ofInt IntKind.i64.bits 1).toNat = n % 2 := by
  show (BitVec.ofInt 64 (n : Int) &&& BitVec.ofInt 64 1).toNat = n % 2
  simp [BitVec.toNat_and]
 unfold bits
 simp only
 rw [e, IntWalk.i64_in _ (by omega)]
theorem bits_and (f s : Nat) (h1 : f ≤ 4294967295) (h2 : s ≤ 4294967295) : bits .and .i64 (f : Int) (s : Int) = ((f &&& s : Nat) : Int) := by
 have h3 : f &&& s ≤ f := Nat.and_le_left
 have e : (BitVec.ofInt IntKind.i64.bits (f : Int) &&& BitVec.ofInt IntKind.i64.bits (s : Int)).toNat = f &&& s := by
  show (BitVec.ofInt 64 (f : Int) &&& BitVec.ofInt 64 (s : Int)).toNat = f &&& s
  rw [BitVec.toNat_and, BitVec.ofInt_natCast, BitVec.ofInt_natCast, BitVec.toNat_ofNat, BitVec.toNat_ofNat, Nat.mod_eq_of_lt (by omega), Nat.mod_eq_of_lt (by omega)]
 unfold bits
 simp only
 rw [e, IntWalk.i64_in _ (by omega)]
theorem shr_nat (n k : Nat) : (n : Int) / 2 ^ k = ((n >>> k : Nat) : Int) := by
 rw [Nat.shiftRight_eq_div_pow]; simp
theorem bit_test (n k : Nat) : ((n >>> k) % 2 = 1) ↔ n.testBit k = true := by
 simp [Nat.testBit]
theorem shlw8 {n : Nat} (h : n ≤ 8) : IntKind.i64.wrap (2 ^ n) = ((2 ^ n : Nat) : Int) := by
 match n, h with
 | 0, _ => decide +kernel
 | 1, _ => decide +kernel
 | 2, _ => decide +kernel
 | 3, _ => decide +kernel
 | 4, _ => decide +kernel
 | 5, _ => decide +kernel
 | 6, _ => decide +kernel
 | 7, _ => decide +kernel
 | 8, _ => decide +kernel
theorem pow8 {n : Nat} (h : n ≤ 8) : 1 ≤ 2 ^ n ∧ 2 ^ n ≤ 256 := by
 match n, h with
 | 0, _ => decide
 | 1, _ => decide
 | 2, _ => decide
 | 3, _ => decide
 | 4, _ => decide
 | 5, _ => decide
 | 6, _ => decide
 | 7, _ => decide
 | 8, _ => decide
theorem finsTo_pre (L : List Int) {a : Nat} (h : 1 ≤ a) : ∀ d, ∃ r, finsTo L (a + d) = finsTo L a ++ r
 | 0 => ⟨[], by simp⟩
 | d + 1 => by
  obtain ⟨r, e⟩ := finsTo_pre L h d
  exact ⟨r ++ finsOfF L (a + d) (2 ^ L.length), by rw [← Nat.add_assoc, finsTo_succ _ _ (by omega), e, List.append_assoc]⟩
theorem finsOfF_pre (L : List Int) (f a : Nat) : ∀ d, ∃ r, finsOfF L f (a + d) = finsOfF L f a ++ r
 | 0 => ⟨[], by simp⟩
 | d + 1 => by
  obtain ⟨r, e⟩ := finsOfF_pre L f a d
  exact ⟨_, by rw [← Nat.add_assoc, finsOfF_succ, e, List.append_assoc]⟩
theorem finsAll_at {L : List Int} {f s : Nat} (h1 : 1 ≤ f) (h2 : f < 2 ^ L.length) (h3 : s < 2 ^ L.length) (hok : okFS L.length f s = true) : ∃ rest, finsAll L = (finsTo L f ++ finsOfF L f s) ++ finsK L f s :: rest := by
 obtain ⟨r1, e1⟩ := finsTo_pre L (a := f + 1) (by omega) (2 ^ L.length - (f + 1))
 obtain ⟨r2, e2⟩ := finsOfF_pre L f (s + 1) (2 ^ L.length - (s + 1))
 have e3 : f + 1 + (2 ^ L.length - (f + 1)) = 2 ^ L.length := by omega
 have e4 : s + 1 + (2 ^ L.length - (s + 1)) = 2 ^ L.length := by omega
 rw [e3] at e1
 rw [e4, finsOfF_succ, if_pos hok] at e2
 refine ⟨r2 ++ r1, ?_⟩
 unfold finsAll
 rw [e1, finsTo_succ _ _ h1, e2]
 simp
theorem grpK_len (L : List Int) (f s k m : Nat) : (grpK L f s k m).length ≤ m := by
 unfold grpK
 rw [List.length_map]
 exact Nat.le_trans (List.length_filter_le _ _) (by simp)
theorem grp_step (L : List Int) (f s m : Nat) {j : Nat} (h : partV f s m = j) : upd (fun k => grpK L f s k m) j (grpK L f s j m ++ [gt L m]) = fun k => grpK L f s k (m + 1) := by
 funext k
 unfold upd
 rw [grpK_succ]
 by_cases e : k = j
 ·subst e; rw [if_pos rfl, if_pos h]
 ·rw [if_neg e, if_neg (fun e2 => e (e2.symm.trans h)), List.append_nil]
end Go.Proofs.Ytphajlldghcnnaa
namespace Go.Proofs.Ytphajlldghcnnaa
theorem rising_iff {l : List Int} : rising l = true ↔ l.Pairwise (· < ·) := by
 constructor
 ·intro h
  rw [List.pairwise_iff_getElem]
  intro i j hi hj hij
  have := rising_lt h hij hj
  rwa [gt_get hi, gt_get hj]
 ·intro h
  rw [List.pairwise_iff_getElem] at h
  unfold rising
  rw [Bool.not_eq_true', List.any_eq_false]
  intro i hi
  have hi' := List.mem_range.1 hi
  unfold flat
  by_cases h0 : 0 < i
  ·have h1 := h (i - 1) i (by omega) hi' (by omega)
   rw [gt_get hi', gt_get (show i - 1 < l.length by omega)] at *
   simp; omega
  ·simp; omega
theorem runL_rising (b : Bk) : rising (runL b) = true := by
 rw [rising_iff]
 unfold runL runK
 refine List.Pairwise.sublist List.filter_sublist ?_
 rw [List.pairwise_map]
 exact List.pairwise_lt_range.imp fun h => by omega
theorem chkG_of : ∀ {g left rest : List Int}, left.Perm (g ++ rest) → ∃ l, chkG left g = some l ∧ l.Perm rest
 | [], left, rest, h => ⟨left, rfl, h⟩
 | r :: g, left, rest, h => by
  have hr : r ∈ left := h.symm.subset (by simp)
  unfold chkG
  rw [if_pos hr]
  refine chkG_of ((List.perm_cons r).1 ((List.perm_cons_erase hr).symm.trans h))
theorem chkF_of : ∀ {fs : List (List Int)} {left rest : List Int}, left.Perm (fs.flatten ++ rest) → (∀ g ∈ fs, g ≠ [] ∧ rising g = true) → ∃ l, chkF left fs = some l ∧ l.Perm rest
 | [], left, rest, h, _ => ⟨left, rfl, h⟩
 | g :: fs, left, rest, h, hg => by
  have h1 := hg g (by simp)
  unfold chkF
  rw [if_neg (by rw [not_or]; exact ⟨h1.1, by simp [h1.2]⟩)]
  rw [List.flatten_cons, List.append_assoc] at h
  obtain ⟨l, e, hl⟩ := chkG_of h
  rw [e]
  exact chkF_of (fs := fs) hl fun x hx => hg x (by simp [hx])
theorem finErr_of {b : Bk} {fs : List (List Int)} (h0 : bkErr b = 0) (h : FinV b fs) : finErr b fs = 0 := by
 have hp : (runL b).Perm (fs.flatten ++ []) := by rw [List.append_nil]; exact h.perm
 obtain ⟨l, e, hl⟩ := chkF_of hp fun g hg => ⟨h.ne g hg, h.up g hg⟩
 have : l = [] := List.perm_nil.1 hl
 subst this
 unfold finErr
 rw [if_neg (fun e => e h0), if_pos e]
theorem grp_perm (L : List Int) (f s : Nat) : ∀ m, ((List.range m).map fun i => gt L i).Perm (grpK L f s 0 m ++ (grpK L f s 1 m ++ grpK L f s 2 m))
 | 0 => by simp [grpK]
 | m + 1 => by
  have ih := grp_perm L f s m
  rw [List.range_succ, List.map_append, grpK_succ, grpK_succ, grpK_succ]
  have h3 : partV f s m = 0 ∨ partV f s m = 1 ∨ partV f s m = 2 := by by_cases h : f.testBit m = true <;> by_cases h2 : s.testBit m = true <;> simp [partV, h, h2]
  generalize grpK L f s 0 m = A at *
  generalize grpK L f s 1 m = B at *
  generalize grpK L f s 2 m = C at *
  simp only [List.map_cons, List.map_nil]
  rcases h3 with h | h | h <;> rw [h] <;> simp
  ·refine (ih.append_right [gt L m]).trans ?_
   rw [List.append_assoc]
   refine List.Perm.append_left A ?_
   exact List.perm_append_comm
  ·refine (ih.append_right [gt L m]).trans ?_
   rw [List.append_assoc, List.append_assoc]
   refine List.Perm.append_left A (List.Perm.append_left B ?_)
   exact List.perm_append_comm
  ·refine (ih.append_right [gt L m]).trans ?_
   rw [List.append_assoc, List.append_assoc]
theorem range_gt (L : List Int) : ((List.range L.length).map fun i => gt L i) = L := by
 refine List.ext_getElem (by simp) fun i h1 h2 => ?_
 rw [List.getElem_map, List.getElem_range, gt_get h2]
theorem filter_flat : ∀ l : List (List Int), (l.filter fun g => !g.isEmpty).flatten = l.flatten
 | [] => rfl
 | [] :: l => by
  rw [List.filter_cons]
  simpa using filter_flat l
 | (a :: g) :: l => by
  rw [List.filter_cons]
  have := filter_flat l
  simp only [List.isEmpty_cons, Bool.not_false, if_true, List.flatten_cons, this]
theorem grp_rising {L : List Int} (h : rising L = true) (f s k : Nat) : rising (grpK L f s k L.length) = true := by
 rw [rising_iff] at h ⊢
 unfold grpK
 rw [List.pairwise_map]
 refine List.Pairwise.sublist List.filter_sublist ?_
 rw [List.pairwise_iff_getElem] at h ⊢
 intro i j hi hj hij
 simp only [List.length_range] at hi hj
 rw [List.getElem_range, List.getElem_range, ← gt_get hi, ← gt_get hj]
 exact h i j hi hj hij
theorem fins_val {b : Bk} (v : BVal b) (f s : Nat) : FinV b (finsK (runL b) f s) := by
 have hp := grp_perm (runL b) f s (runL b).length
 rw [range_gt] at hp
 have hr := runL_rising b
 refine ⟨v, ?_, fun g hg => ?_, fun g hg => ?_⟩
 ·unfold finsK
  rw [filter_flat]
  simpa using hp
 ·unfold finsK at hg
  have := (List.mem_filter.1 hg).2
  intro e; subst e; simp at this
 ·unfold finsK at hg
  have := (List.mem_filter.1 hg).1
  simp only [List.mem_cons, List.not_mem_nil, or_false] at this
  rcases this with rfl | rfl | rfl <;> exact grp_rising hr _ _ _
theorem finsAll_val {b : Bk} (v : BVal b) {fs : List (List Int)} (h : fs ∈ finsAll (runL b)) : FinV b fs := by
 unfold finsAll finsTo finsOfF at h
 obtain ⟨f, _, h2⟩ := List.mem_flatMap.1 h
 obtain ⟨s, _, rfl⟩ := List.mem_map.1 h2
 exact fins_val v f s
theorem finsAll_pos {L : List Int} (h : 1 ≤ L.length) : finsAll L ≠ [] := by
 have hp : 2 ≤ 2 ^ L.length := by
  obtain ⟨m, hm⟩ : ∃ m, L.length = m + 1 := ⟨L.length - 1, by omega⟩
  rw [hm, Nat.pow_succ]
  have := Nat.two_pow_pos m
  omega
 have : finsK L (2 ^ L.length - 1) 0 ∈ finsAll L := by
  unfold finsAll finsTo finsOfF
  refine List.mem_flatMap.2 ⟨2 ^ L.length - 1, List.mem_filter.2 ⟨List.mem_range.2 (by omega), by simp; omega⟩, ?_⟩
  refine List.mem_map.2 ⟨0, List.mem_filter.2 ⟨List.mem_range.2 (by omega), ?_⟩, rfl⟩
  simp [okFS]
 intro e
 rw [e] at this
 cases this
end Go.Proofs.Ytphajlldghcnnaa
