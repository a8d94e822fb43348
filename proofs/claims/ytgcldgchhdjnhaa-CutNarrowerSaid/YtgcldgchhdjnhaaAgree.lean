/-
  The walk of agree: whether counters agree without some of them.
-/
import Derived.Test.YtgcldgchhdjnhaaGrow
import Derived.Test.YtgcldgchhdjnhaaOpen
import Derived.Test.YtgcldgchhdjnhaaOwn
import Derived.Test.YtgcldgchhdjnhaaMath
namespace Go.Proofs.Ytgcldgchhdjnhaa
open Go.RowKit Go.Shelf

theorem Owns.isSlice {w : World} {B : Nat} {e : TypeId} {sz : Nat} {v : Value} {rows : List (List Value)} (h : Owns w B e sz v rows) : ∃ sa n cap, v = .slice sa n cap := by
  obtain ⟨sa, cap, e, _⟩ := h.form
  exact ⟨sa, _, cap, e⟩
theorem elCnt : El 22 70 4 := El.mk' (bytes := 32) (z := .agg #[.int .i64 0, .int .i64 0, .int .i64 0, .int .i64 0]) (by kernel_rfl) (by kernel_rfl) rfl (by omega) (by omega)
set_option maxRecDepth 100000 in
set_option maxHeartbeats 2000000 in
theorem agree_any (h : Hall) (sv lv : Value) (v : Valid h) (l : List Int) (b r : Nat) (w : World) (hs : SheetAt w b r h sv) (hl : IsInts w .i64 lv l) :
    Calls Try.prog 105 #[.pointer (some ⟨b, 0, none⟩), lv] w fun e w' => e = .returned (.bool (leastM (wo h l) 0).2) ∧ Ext w w' := by
  obtain ⟨ca, ccap, rfl, hm1, hm2, -⟩ := hs.cs.spec
  have n1 := v.n1
  have hlen := v.len
  have c0 := hs.c0
  have c1 := hs.c1
  have c2 := hs.c2
  have hbw : b < w.heap.size := World.block_lt_of_cell? _ _ c0
  have HS := Lib.hid hs
  have HL := Lib.hid hl
  have V := Lib.hid v
  clear hs hl v
  go_enter Try.func105, Try.ntmps105
  go_wp2_with fail
  go_loopw [21] (fun i W => ∃ (k : Nat) (xv : Value), k ≤ h.cs.length ∧ i = .int .i64 k ∧ Ext w W ∧ W.heap[w.heap.size]? = some (.cells #[.int .i64 h.n, .int .i64 h.most, xv] 24 (0, 0)) ∧ Owns W (w.heap.size + 1) 70 4 xv ((kept l 0 (h.cs.take k)).map Cnt.cells)) (fun i _ => h.cs.length - (intOf i).toNat)
  case atStart => exact ⟨0, _, Nat.zero_le _, rfl, (by repeat (first | exact Below.refl _ _ | refine Ext.al ?_ _ | refine Ext.dr ?_ | refine Ext.drN ?_ _ | refine Ext.gr ?_ _ | refine Ext.set ?_ (by simp) _ | (refine Ext.trans' ?_ (by assumption)))), by show (w.heap.push _)[w.heap.size]? = _; rw [Array.getElem?_push, if_pos rfl], Owns.nil _ _ _ _⟩
  case round =>
    obtain ⟨k, xv, hk, rfl, hE, hX, hown⟩ := hrel
    have x2 : wr.cell? ⟨w.heap.size, 2, none⟩ = some xv := by rw [cell_of_row _ _ _ _ _ _ hX]; rfl
    have xf : wr.frozen? ⟨w.heap.size, 2, none⟩ = false := by simp [World.frozen?, hX]
    have HE := Lib.hid hE
    have HX := Lib.hid hX
    have HO := Lib.hid hown
    have hz := World.block_lt_of_cell? _ _ x2
    by_cases hlt : k < h.cs.length
    · rcases (HS.out.cs.ext hE).opened with e | ⟨cb, coff, rfl, hcc⟩
      · simp [e] at hlt
      obtain ⟨d0, d1, d2, d3⟩ := hcc k hlt
      have hkt := kept_take (l := l) hlt
      have HKT := Lib.hid hkt
      clear hcc hE hX hown hkt
      go_wp2_with fail
      refine callGr (contains_any l k lv _ (HL.out.ext (by exact (by repeat (first | exact Below.refl _ _ | refine Ext.al ?_ _ | refine Ext.dr ?_ | refine Ext.drN ?_ _ | refine Ext.gr ?_ _ | refine Ext.set ?_ (by simp) _ | (refine Ext.trans' ?_ (by assumption))))))) fun g => ?_
      cases hct : l.contains (k : Int)
      · have hgs := grow_size _ g
        have hln := kept_len l (h.cs.take k) 0
        have hln2 : (kept l 0 (h.cs.take k)).length ≤ 10 := by
          have : (h.cs.take k).length ≤ k := List.length_take_le _ _
          omega
        simp at hgs
        clear hln
        go_wp2_with (at_builtin; refine wpOwn rfl (.tmp 31) (.tmp 33) elCnt rfl (w.heap.size + 1) rfl (HO.out.ext (by exact (by repeat (first | exact Below.refl _ _ | refine Ext.al ?_ _ | refine Ext.dr ?_ | refine Ext.drN ?_ _ | refine Ext.gr ?_ _ | refine Ext.set ?_ (by simp) _ | (refine Ext.trans' ?_ (by assumption)))))) _ 0 1 [(h.cs[k]).cells] rfl (by simp [Cnt.cells]) (rowsAt_one (fun j hj => by
          have hj4 : j < 4 := by simpa [Cnt.cells] using hj
          match j, hj4 with
          | 0, _ => simp [go_sem, Cnt.cells]
          | 1, _ => simp [go_sem, Cnt.cells]
          | 2, _ => simp [go_sem, Cnt.cells]
          | 3, _ => simp [go_sem, Cnt.cells])) (by simp [Cnt.cells, Value.oneCell']) (by simp; omega) (by simp [go_sem]; omega) ?_)
        intro v' w' hown' hb'
        obtain ⟨sa', n', cap', rfl⟩ := hown'.isSlice
        have hb2 : Below (w.heap.size + 1) wr w' := Below.trans ((Below.trans (((Below.refl _ wr).alloc (by omega) _)) ((grow_below _ g).mono (by simp; omega))).alloc (by omega) _) hb'
        have hX' : w'.heap[w.heap.size]? = some (.cells #[.int .i64 h.n, .int .i64 h.most, xv] 24 (0, 0)) := (hb2.block _ (by omega)).trans HX.out
        have xf' : w'.frozen? ⟨w.heap.size, 2, none⟩ = false := by simp [World.frozen?, hX']
        have x2' : w'.cell? ⟨w.heap.size, 2, none⟩ = some xv := by rw [cell_of_row _ _ _ _ _ _ hX']; rfl
        have hz' : w.heap.size < w'.heap.size := World.block_lt_of_cell? _ _ x2'
        have HX' := Lib.hid hX'
        have HO' := Lib.hid hown'
        have HB' := Lib.hid hb2
        clear hb' hb2 hX' hown' x2 xf d0 d1 d2 d3
        go_wp2_with fail
        go_roundw
        case rel =>
          refine ⟨k + 1, .slice sa' n' cap', by omega, by go_num, (HE.out.trans (HB'.out.mono (by omega))).setCell (Nat.le_refl _) _, ?_, ?_⟩
          · rw [heap_setCell_row HX'.out]; rfl
          · rw [HKT.out, hct]
            have := HO'.out.of_heap (w' := w'.setCell ⟨w.heap.size, 2, none⟩ (.slice sa' n' cap')) fun j hj _ => Below.heap_setCell _ _ _ _ (by simp only; omega)
            simpa using this
        case measure => simp [intOf]; omega
      · go_wp2_with fail
        go_roundw
        case rel =>
          refine ⟨k + 1, xv, by omega, by go_num, HE.out.trans' (by repeat (first | exact Below.refl _ _ | refine Ext.al ?_ _ | refine Ext.dr ?_ | refine Ext.drN ?_ _ | refine Ext.gr ?_ _ | refine Ext.set ?_ (by simp) _ | (refine Ext.trans' ?_ (by assumption)))), ?_, ?_⟩
          · exact ((by exact (by repeat (first | exact Below.refl _ _ | refine Ext.al ?_ _ | refine Ext.dr ?_ | refine Ext.drN ?_ _ | refine Ext.gr ?_ _ | refine Ext.set ?_ (by simp) _ | (refine Ext.trans' ?_ (by assumption)))) : Ext wr _).block _ hz).trans HX.out
          · rw [HKT.out, hct, if_pos rfl, List.append_nil]
            exact HO.out.ext (by exact (by repeat (first | exact Below.refl _ _ | refine Ext.al ?_ _ | refine Ext.dr ?_ | refine Ext.drN ?_ _ | refine Ext.gr ?_ _ | refine Ext.set ?_ (by simp) _ | (refine Ext.trans' ?_ (by assumption)))))
        case measure => simp [intOf]; omega
    · obtain rfl : k = h.cs.length := by omega
      have hcs : IsCnts wr xv (kept l 0 h.cs) := by
        have := hown.isRows
        rwa [List.take_length] at this
      have hk0 : wr.cell? ⟨w.heap.size, 0, none⟩ = some (.int .i64 h.n) := by rw [cell_of_row _ _ _ _ _ _ hX]; rfl
      have hk1 : wr.cell? ⟨w.heap.size, 1, none⟩ = some (.int .i64 h.most) := by rw [cell_of_row _ _ _ _ _ _ hX]; rfl
      have HCS := Lib.hid hcs
      have WV := Lib.hid (wo_valid V.out l)
      clear hcs hown hX hE
      go_wp2_with fail
      refine (newSheet_any (wo h l) xv WV.out _ HCS.out).mono ?_
      rintro e W3 ⟨rfl, hsh, hm⟩
      have HSh := Lib.hid hsh
      have hat : SheetAt W3 (wr.heap.size + 1 + 1) (wr.heap.size + 1) (wo h l) xv := ⟨hsh.c0, hsh.c1, hsh.c2, hsh.c3, HCS.out.ext hsh.ext, hm⟩
      have HAT := Lib.hid hat
      clear hsh hm hat hk0 hk1 x2 xf
      go_wp2_with fail
      refine (least_any (wo h l) xv WV.out 0 (by have := WV.out.n1; omega) _ _ _ HAT.out).mono ?_
      rintro e W4 ⟨rfl, hb4, -⟩
      have HE4 := Lib.hid ((HE.out.trans' HSh.out.ext).trans' hb4)
      clear hb4
      cases hok : (leastM (wo h l) 0).2
      all_goals
        go_wp2_with fail
        go_ret
        exact ⟨by rw [hok]; rfl, HE4.out⟩
end Go.Proofs.Ytgcldgchhdjnhaa
