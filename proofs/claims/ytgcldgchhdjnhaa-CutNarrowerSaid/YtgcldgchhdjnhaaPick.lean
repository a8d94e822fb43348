/-
  The walks of pick's closures, of spread, and of pick: the increasing lists that are good.
-/
import Derived.Test.YtgcldgchhdjnhaaOwn2
import Derived.OwnWalk
namespace Go.Proofs.Ytgcldgchhdjnhaa
open Go.RowKit Go.Shelf

/-- what a closure returns: lists, laid anew -/
def LLs (B : Nat) (ls : List (List Int)) (w : World) (e : Ending) (w' : World) : Prop := ∃ v ps, e = .returned v ∧ Ext w w' ∧ LL w' B v ps ∧ ps.map (·.2) = ls
set_option maxRecDepth 100000 in
set_option maxHeartbeats 2000000 in
theorem pick1_any (l : List Int) (lv : Value) (n : Int) (hn : n ≤ 10) (hi : Inc n l) (B0 : Nat) (a : Addr) (w : World) (hv : Owns w B0 3 1 lv (l.map iRow)) (ha : w.cell? a = some (.int .i64 n)) (has : a.spot = none) :
    Calls Try.prog 113 #[lv, .pointer (some a)] w (LLs w.heap.size (nxt n l) w) := by
  obtain ⟨ab, ao, sp⟩ := a
  obtain rfl : sp = none := has
  have hab : ab < w.heap.size := World.block_lt_of_cell? _ _ ha
  obtain ⟨sa, cap, rfl, hl1, hl2, -⟩ := hv.form
  have hll : (l.map iRow).length = l.length := by simp
  rw [hll] at hl1 hv ⊢
  have h0 := start_nn fun x hx => (hi.1 x hx).1
  have h1 := hi.2.1
  have h2 := hi.2.2
  have HV := Lib.hid hv
  have HI := Lib.hid hi
  clear hv hll hi
  have hcase : (l.length = 0 ∧ start l = 0 ∧ (sa = none ∨ ∃ (b off : Nat), sa = some ⟨b, off, none⟩)) ∨ ∃ (b off : Nat) (x : Int), 0 < l.length ∧ sa = some ⟨b, off, none⟩ ∧ w.cell? ⟨b, off + (l.length - 1), none⟩ = some (.int .i64 x) ∧ start l = x + 1 ∧ b < w.heap.size := by
    rcases List.eq_nil_or_concat l with e | ⟨l', x, e⟩
    · left
      refine ⟨by rw [e]; rfl, by rw [e]; rfl, ?_⟩
      rcases HV.out.src with ⟨-, ⟨h3, -⟩ | ⟨b, off, h3, -⟩⟩
      · exact .inl h3
      · exact .inr ⟨b, off, h3⟩
    · right
      have hl0 : 0 < l.length := by rw [e]; simp
      rcases HV.out.src with ⟨-, ⟨-, h3⟩ | ⟨b, off, rfl, h3⟩⟩
      · rw [List.map_eq_nil_iff] at h3; rw [h3] at hl0; simp at hl0
      · have h4 := h3 (l.length - 1) (by simp; omega) 0 (by simp [iRow])
        have h5 : w.cell? ⟨b, off + (l.length - 1), none⟩ = some (.int .i64 l[l.length - 1]) := by simpa [iRow] using h4
        refine ⟨b, off, l[l.length - 1], hl0, rfl, h5, ?_, World.block_lt_of_cell? _ _ h5⟩
        have e2 : start l = l.getLast (by intro hh; rw [hh] at hl0; simp at hl0) + 1 := by unfold start; rw [List.getLast?_eq_some_getLast (by intro hh; rw [hh] at hl0; simp at hl0)]
        rw [e2, List.getLast_eq_getElem]
  obtain ⟨s, hs⟩ : ∃ s, s = start l := ⟨_, rfl⟩
  rw [← hs] at h0 h1 h2 hcase
  have HS := Lib.hid hs
  clear hs
  have hl10 : l.length ≤ 10 := by have := HI.out.2.2; have := HI.out.2.1; omega
  rcases hcase with ⟨hl0, hs0, rfl | ⟨b, off, rfl⟩⟩ | ⟨b, off, x, hl0, rfl, hx, hsx, hbw⟩
  · have hg : decide (0 < (l.length : Int)) = false := decide_eq_false (by omega)
    have AT0 : Hid (Value.int .i64 0 = Value.int .i64 (s + ((0 : Nat) : Int))) := Lib.hid (by rw [hs0]; rfl)
    have HL0 := Lib.hid hl0
    have hg1 : ¬ 0 < l.length := by omega
    clear hs0 hl0
    go_enter Try.func113, Try.ntmps113
    go_wp2_with fail
    go_loopw [4, 5] (fun nv at_ W => ∃ (j : Nat) (ps : List (Value × List Int)), s + j ≤ n ∧ at_ = .int .i64 (s + j) ∧ Ext w W ∧ LL W w.heap.size nv ps ∧ ps.map (·.2) = (List.range j).map fun (i : Nat) => l ++ [s + (i : Int)]) (fun _ at_ _ => (n - intOf at_).toNat)
    case atStart => exact ⟨0, [], by omega, AT0.out, Below.refl _ _, LL.nil _ _, rfl⟩
    case round =>
      obtain ⟨j, ps, hj, rfl, hE, hLL, hps⟩ := hrel
      have HE := Lib.hid hE
      have HLL := Lib.hid hLL
      have HPS := Lib.hid hps
      have ha' := cell_ext hE ha
      clear hE hLL hps
      by_cases hlt : s + j < n
      · have hsz := (HE.out : Ext w wr).size
        have hold : Hid (((none : Option Addr) = none ∧ l.map iRow = [] ∧ l.length = 0) ∨ ∃ b' off', (none : Option Addr) = some ⟨b', off', none⟩ ∧ RowsAt wr 1 b' off' (l.map iRow)) := by
          refine Lib.hid ?_
          rcases (HV.out.ext HE.out).src.2 with ⟨h1, h2⟩ | h1
          · exact .inl ⟨h1, h2, by simpa using h2⟩
          · exact .inr h1
        have hw1 : IntKind.i64.wrap (s + (j : Int)) = s + (j : Int) := IntWalk.i64_in _ (by omega)
        go_wp2_with (at_builtin; refine wpGrow rfl (.tmp 27) (.tmp 29) elInt rfl none l.length (rows := l.map iRow) (by simp; rfl) (by simp [iRow]) (hold.out.imp id fun ⟨b, off, h1, h2⟩ => ⟨b, off, h1, h2.ext (by exact (by repeat (first | exact Below.refl _ _ | refine Ext.al ?_ _ | refine Ext.dr ?_ | refine Ext.drN ?_ _ | refine Ext.gr ?_ _ | refine Ext.set ?_ (by simp) _ | (refine Ext.trans' ?_ (by assumption)))))⟩) wr.heap.size 0 1 [iRow (s + j)] rfl (by simp [iRow]) (newRow _ (iRow (s + j)) _) (by simp [iRow, Value.oneCell']) (by simp) (by simp; omega) ?_)
        intro v1 w1 hown1 hb1
        obtain ⟨sa1, n1, cap1, rfl⟩ := hown1.isSlice
        have hE1 : Ext wr w1 := ((Below.refl _ wr).alloc (Nat.le_refl _) _).trans (hb1.mono (by omega))
        have hrl : (l.map iRow) ++ [iRow (s + j)] = (l ++ [s + (j : Int)]).map iRow := by simp
        rw [hrl] at hown1
        have HL1 := Lib.hid ((HLL.out : LL wr _ _ _).ext hE1)
        have hs1 := hE1.size
        have HE1 := Lib.hid hE1
        have HO1 := Lib.hid (hown1.base (B' := w.heap.size) (by omega))
        have hpl : ps.length ≤ 10 := by
          have := congrArg List.length HPS.out
          simp at this
          omega
        obtain ⟨sa2, n2, cap2, hu4⟩ := (HLL.out : LL wr _ _ _).own.isSlice
        subst hu4
        clear hb1 hown1 hE1 hrl ha'
        go_wp2_with (at_builtin; refine wpApp rfl (.tmp 21) (.tmp 31) elLst rfl w.heap.size rfl (HL1.out.own.ext (by exact (by repeat (first | exact Below.refl _ _ | refine Ext.al ?_ _ | refine Ext.dr ?_ | refine Ext.drN ?_ _ | refine Ext.gr ?_ _ | refine Ext.set ?_ (by simp) _ | (refine Ext.trans' ?_ (by assumption)))))) (some ⟨w1.heap.size, 0, none⟩) 1 [[.slice sa1 n1 cap1]] rfl (by simp) (.inr ⟨_, _, rfl, newRow _ [.slice sa1 n1 cap1] _⟩) (by simp [Value.oneCell']) (by simp; omega) (by simp; omega) ?_)
        intro v2 w2 hown2 hk2
        obtain ⟨sa3, n3, cap3, rfl⟩ := hown2.isSlice
        have HO2 := Lib.hid hown2
        have HK2 := Lib.hid hk2
        clear hown2 hk2
        go_wp2_with fail
        go_roundw
        case rel =>
          have hal : Ext w1 (w1.alloc (.cells #[.slice sa1 n1 cap1] 56)) := (by repeat (first | exact Below.refl _ _ | refine Ext.al ?_ _ | refine Ext.dr ?_ | refine Ext.drN ?_ _ | refine Ext.gr ?_ _ | refine Ext.set ?_ (by simp) _ | (refine Ext.trans' ?_ (by assumption))))
          have hown0 := HL1.out.own.ext hal
          refine ⟨j + 1, ps ++ [(.slice sa1 n1 cap1, l ++ [s + (j : Int)])], by omega, by go_num, ((HE.out.trans (HE1.out.mono hsz)).trans (hal.mono (by omega))).trans (hown0.keptBelow (by simp; omega) HK2.out), ⟨by simpa using HO2.out, fun x hx => ?_⟩, ?_⟩
          · rcases List.mem_append.1 hx with hx | hx
            · exact ((HL1.out.each x hx).ext hal).keep (by decide) hown0 HK2.out
            · simp only [List.mem_singleton] at hx
              subst hx
              exact (HO1.out.ext hal).keep (by decide) hown0 HK2.out
          · rw [List.map_append, HPS.out, List.range_succ, List.map_append]
            rfl
        case measure => simp [intOf]; omega
      · go_wp2_with fail
        go_ret
        refine ⟨_, ps, rfl, HE.out, HLL.out, ?_⟩
        rw [HPS.out]
        unfold nxt
        rw [← HS.out]
        congr 2
        omega
  · have hg : decide (0 < (l.length : Int)) = false := decide_eq_false (by omega)
    have AT0 : Hid (Value.int .i64 0 = Value.int .i64 (s + ((0 : Nat) : Int))) := Lib.hid (by rw [hs0]; rfl)
    have HL0 := Lib.hid hl0
    have hg1 : ¬ 0 < l.length := by omega
    clear hs0 hl0
    go_enter Try.func113, Try.ntmps113
    go_wp2_with fail
    go_loopw [4, 5] (fun nv at_ W => ∃ (j : Nat) (ps : List (Value × List Int)), s + j ≤ n ∧ at_ = .int .i64 (s + j) ∧ Ext w W ∧ LL W w.heap.size nv ps ∧ ps.map (·.2) = (List.range j).map fun (i : Nat) => l ++ [s + (i : Int)]) (fun _ at_ _ => (n - intOf at_).toNat)
    case atStart => exact ⟨0, [], by omega, AT0.out, Below.refl _ _, LL.nil _ _, rfl⟩
    case round =>
      obtain ⟨j, ps, hj, rfl, hE, hLL, hps⟩ := hrel
      have HE := Lib.hid hE
      have HLL := Lib.hid hLL
      have HPS := Lib.hid hps
      have ha' := cell_ext hE ha
      clear hE hLL hps
      by_cases hlt : s + j < n
      · have hsz := (HE.out : Ext w wr).size
        have hold : Hid ((((some ⟨b, off, none⟩) : Option Addr) = none ∧ l.map iRow = [] ∧ l.length = 0) ∨ ∃ b' off', ((some ⟨b, off, none⟩) : Option Addr) = some ⟨b', off', none⟩ ∧ RowsAt wr 1 b' off' (l.map iRow)) := by
          refine Lib.hid ?_
          rcases (HV.out.ext HE.out).src.2 with ⟨h1, h2⟩ | h1
          · exact .inl ⟨h1, h2, by simpa using h2⟩
          · exact .inr h1
        have hw1 : IntKind.i64.wrap (s + (j : Int)) = s + (j : Int) := IntWalk.i64_in _ (by omega)
        go_wp2_with (at_builtin; refine wpGrow rfl (.tmp 27) (.tmp 29) elInt rfl (some ⟨b, off, none⟩) l.length (rows := l.map iRow) (by simp; rfl) (by simp [iRow]) (hold.out.imp id fun ⟨b, off, h1, h2⟩ => ⟨b, off, h1, h2.ext (by exact (by repeat (first | exact Below.refl _ _ | refine Ext.al ?_ _ | refine Ext.dr ?_ | refine Ext.drN ?_ _ | refine Ext.gr ?_ _ | refine Ext.set ?_ (by simp) _ | (refine Ext.trans' ?_ (by assumption)))))⟩) wr.heap.size 0 1 [iRow (s + j)] rfl (by simp [iRow]) (newRow _ (iRow (s + j)) _) (by simp [iRow, Value.oneCell']) (by simp) (by simp; omega) ?_)
        intro v1 w1 hown1 hb1
        obtain ⟨sa1, n1, cap1, rfl⟩ := hown1.isSlice
        have hE1 : Ext wr w1 := ((Below.refl _ wr).alloc (Nat.le_refl _) _).trans (hb1.mono (by omega))
        have hrl : (l.map iRow) ++ [iRow (s + j)] = (l ++ [s + (j : Int)]).map iRow := by simp
        rw [hrl] at hown1
        have HL1 := Lib.hid ((HLL.out : LL wr _ _ _).ext hE1)
        have hs1 := hE1.size
        have HE1 := Lib.hid hE1
        have HO1 := Lib.hid (hown1.base (B' := w.heap.size) (by omega))
        have hpl : ps.length ≤ 10 := by
          have := congrArg List.length HPS.out
          simp at this
          omega
        obtain ⟨sa2, n2, cap2, hu4⟩ := (HLL.out : LL wr _ _ _).own.isSlice
        subst hu4
        clear hb1 hown1 hE1 hrl ha'
        go_wp2_with (at_builtin; refine wpApp rfl (.tmp 21) (.tmp 31) elLst rfl w.heap.size rfl (HL1.out.own.ext (by exact (by repeat (first | exact Below.refl _ _ | refine Ext.al ?_ _ | refine Ext.dr ?_ | refine Ext.drN ?_ _ | refine Ext.gr ?_ _ | refine Ext.set ?_ (by simp) _ | (refine Ext.trans' ?_ (by assumption)))))) (some ⟨w1.heap.size, 0, none⟩) 1 [[.slice sa1 n1 cap1]] rfl (by simp) (.inr ⟨_, _, rfl, newRow _ [.slice sa1 n1 cap1] _⟩) (by simp [Value.oneCell']) (by simp; omega) (by simp; omega) ?_)
        intro v2 w2 hown2 hk2
        obtain ⟨sa3, n3, cap3, rfl⟩ := hown2.isSlice
        have HO2 := Lib.hid hown2
        have HK2 := Lib.hid hk2
        clear hown2 hk2
        go_wp2_with fail
        go_roundw
        case rel =>
          have hal : Ext w1 (w1.alloc (.cells #[.slice sa1 n1 cap1] 56)) := (by repeat (first | exact Below.refl _ _ | refine Ext.al ?_ _ | refine Ext.dr ?_ | refine Ext.drN ?_ _ | refine Ext.gr ?_ _ | refine Ext.set ?_ (by simp) _ | (refine Ext.trans' ?_ (by assumption))))
          have hown0 := HL1.out.own.ext hal
          refine ⟨j + 1, ps ++ [(.slice sa1 n1 cap1, l ++ [s + (j : Int)])], by omega, by go_num, ((HE.out.trans (HE1.out.mono hsz)).trans (hal.mono (by omega))).trans (hown0.keptBelow (by simp; omega) HK2.out), ⟨by simpa using HO2.out, fun x hx => ?_⟩, ?_⟩
          · rcases List.mem_append.1 hx with hx | hx
            · exact ((HL1.out.each x hx).ext hal).keep (by decide) hown0 HK2.out
            · simp only [List.mem_singleton] at hx
              subst hx
              exact (HO1.out.ext hal).keep (by decide) hown0 HK2.out
          · rw [List.map_append, HPS.out, List.range_succ, List.map_append]
            rfl
        case measure => simp [intOf]; omega
      · go_wp2_with fail
        go_ret
        refine ⟨_, ps, rfl, HE.out, HLL.out, ?_⟩
        rw [HPS.out]
        unfold nxt
        rw [← HS.out]
        congr 2
        omega
  · have hg : decide (0 < (l.length : Int)) = true := decide_eq_true (by omega)
    go_enter Try.func113, Try.ntmps113
    go_wp2_with fail
    have AT0 : Hid (Value.int .i64 (x + 1) = Value.int .i64 (s + ((0 : Nat) : Int))) := Lib.hid (by rw [hsx]; simp)
    clear hsx
    go_loopw [4, 5] (fun nv at_ W => ∃ (j : Nat) (ps : List (Value × List Int)), s + j ≤ n ∧ at_ = .int .i64 (s + j) ∧ Ext w W ∧ LL W w.heap.size nv ps ∧ ps.map (·.2) = (List.range j).map fun (i : Nat) => l ++ [s + (i : Int)]) (fun _ at_ _ => (n - intOf at_).toNat)
    case atStart => exact ⟨0, [], by omega, AT0.out, Below.refl _ _, LL.nil _ _, rfl⟩
    case round =>
      obtain ⟨j, ps, hj, rfl, hE, hLL, hps⟩ := hrel
      have HE := Lib.hid hE
      have HLL := Lib.hid hLL
      have HPS := Lib.hid hps
      have ha' := cell_ext hE ha
      clear hE hLL hps
      by_cases hlt : s + j < n
      · have hsz := (HE.out : Ext w wr).size
        have hold : Hid ((((some ⟨b, off, none⟩) : Option Addr) = none ∧ l.map iRow = [] ∧ l.length = 0) ∨ ∃ b' off', ((some ⟨b, off, none⟩) : Option Addr) = some ⟨b', off', none⟩ ∧ RowsAt wr 1 b' off' (l.map iRow)) := by
          refine Lib.hid ?_
          rcases (HV.out.ext HE.out).src.2 with ⟨h1, h2⟩ | h1
          · exact .inl ⟨h1, h2, by simpa using h2⟩
          · exact .inr h1
        have hw1 : IntKind.i64.wrap (s + (j : Int)) = s + (j : Int) := IntWalk.i64_in _ (by omega)
        go_wp2_with (at_builtin; refine wpGrow rfl (.tmp 27) (.tmp 29) elInt rfl (some ⟨b, off, none⟩) l.length (rows := l.map iRow) (by simp; rfl) (by simp [iRow]) (hold.out.imp id fun ⟨b, off, h1, h2⟩ => ⟨b, off, h1, h2.ext (by exact (by repeat (first | exact Below.refl _ _ | refine Ext.al ?_ _ | refine Ext.dr ?_ | refine Ext.drN ?_ _ | refine Ext.gr ?_ _ | refine Ext.set ?_ (by simp) _ | (refine Ext.trans' ?_ (by assumption)))))⟩) wr.heap.size 0 1 [iRow (s + j)] rfl (by simp [iRow]) (newRow _ (iRow (s + j)) _) (by simp [iRow, Value.oneCell']) (by simp) (by simp; omega) ?_)
        intro v1 w1 hown1 hb1
        obtain ⟨sa1, n1, cap1, rfl⟩ := hown1.isSlice
        have hE1 : Ext wr w1 := ((Below.refl _ wr).alloc (Nat.le_refl _) _).trans (hb1.mono (by omega))
        have hrl : (l.map iRow) ++ [iRow (s + j)] = (l ++ [s + (j : Int)]).map iRow := by simp
        rw [hrl] at hown1
        have HL1 := Lib.hid ((HLL.out : LL wr _ _ _).ext hE1)
        have hs1 := hE1.size
        have HE1 := Lib.hid hE1
        have HO1 := Lib.hid (hown1.base (B' := w.heap.size) (by omega))
        have hpl : ps.length ≤ 10 := by
          have := congrArg List.length HPS.out
          simp at this
          omega
        obtain ⟨sa2, n2, cap2, hu4⟩ := (HLL.out : LL wr _ _ _).own.isSlice
        subst hu4
        clear hb1 hown1 hE1 hrl ha'
        go_wp2_with (at_builtin; refine wpApp rfl (.tmp 21) (.tmp 31) elLst rfl w.heap.size rfl (HL1.out.own.ext (by exact (by repeat (first | exact Below.refl _ _ | refine Ext.al ?_ _ | refine Ext.dr ?_ | refine Ext.drN ?_ _ | refine Ext.gr ?_ _ | refine Ext.set ?_ (by simp) _ | (refine Ext.trans' ?_ (by assumption)))))) (some ⟨w1.heap.size, 0, none⟩) 1 [[.slice sa1 n1 cap1]] rfl (by simp) (.inr ⟨_, _, rfl, newRow _ [.slice sa1 n1 cap1] _⟩) (by simp [Value.oneCell']) (by simp; omega) (by simp; omega) ?_)
        intro v2 w2 hown2 hk2
        obtain ⟨sa3, n3, cap3, rfl⟩ := hown2.isSlice
        have HO2 := Lib.hid hown2
        have HK2 := Lib.hid hk2
        clear hown2 hk2
        go_wp2_with fail
        go_roundw
        case rel =>
          have hal : Ext w1 (w1.alloc (.cells #[.slice sa1 n1 cap1] 56)) := (by repeat (first | exact Below.refl _ _ | refine Ext.al ?_ _ | refine Ext.dr ?_ | refine Ext.drN ?_ _ | refine Ext.gr ?_ _ | refine Ext.set ?_ (by simp) _ | (refine Ext.trans' ?_ (by assumption))))
          have hown0 := HL1.out.own.ext hal
          refine ⟨j + 1, ps ++ [(.slice sa1 n1 cap1, l ++ [s + (j : Int)])], by omega, by go_num, ((HE.out.trans (HE1.out.mono hsz)).trans (hal.mono (by omega))).trans (hown0.keptBelow (by simp; omega) HK2.out), ⟨by simpa using HO2.out, fun x hx => ?_⟩, ?_⟩
          · rcases List.mem_append.1 hx with hx | hx
            · exact ((HL1.out.each x hx).ext hal).keep (by decide) hown0 HK2.out
            · simp only [List.mem_singleton] at hx
              subst hx
              exact (HO1.out.ext hal).keep (by decide) hown0 HK2.out
          · rw [List.map_append, HPS.out, List.range_succ, List.map_append]
            rfl
        case measure => simp [intOf]; omega
      · go_wp2_with fail
        go_ret
        refine ⟨_, ps, rfl, HE.out, HLL.out, ?_⟩
        rw [HPS.out]
        unfold nxt
        rw [← HS.out]
        congr 2
        omega

set_option maxRecDepth 100000 in
set_option maxHeartbeats 2000000 in
theorem spread_any (ps : List (Value × List Int)) (v : Value) (n : Int) (hn : n ≤ 10) (B0 : Nat) (a : Addr) (w : World) (hinc : ∀ x ∈ ps, Inc n x.2) (hv : LL w B0 v ps) (ha : w.cell? a = some (.int .i64 n)) (has : a.spot = none)
    (hlen : ((ps.map (·.2)).flatMap (nxt n)).length ≤ 1024) :
    Calls Try.prog 112 #[v, .func (.func 113) #[] #[.pointer (some a)]] w (LLs w.heap.size ((ps.map (·.2)).flatMap (nxt n)) w) := by
  obtain ⟨ab, ao, sp⟩ := a
  obtain rfl : sp = none := has
  have hab : ab < w.heap.size := World.block_lt_of_cell? _ _ ha
  obtain ⟨sa, cap, rfl, hl1, hl2, -⟩ := hv.own.form
  have hll : (ps.map fun x => [x.1]).length = ps.length := by simp
  rw [hll] at hl1 hv ⊢
  have HV := Lib.hid hv
  have HI := Lib.hid hinc
  have HLEN := Lib.hid hlen
  clear hv hll hinc hlen
  have hcall := fun args W => Try.call113 args W
  go_enter Try.func112, Try.ntmps112
  go_wp2_with fail
  go_loopw [5, 10] (fun nv i W => ∃ (k : Nat) (qs : List (Value × List Int)), k ≤ ps.length ∧ i = .int .i64 k ∧ Ext w W ∧ LL W w.heap.size nv qs ∧ qs.map (·.2) = ((ps.take k).map (·.2)).flatMap (nxt n)) (fun _ i _ => ps.length - (intOf i).toNat)
  case atStart => exact ⟨0, [], by omega, rfl, Below.refl _ _, LL.nil _ _, rfl⟩
  case round =>
    obtain ⟨k, qs, hk, rfl, hE, hLL, hqs⟩ := hrel
    have HE := Lib.hid hE
    have HLL := Lib.hid hLL
    have HQS := Lib.hid hqs
    have ha' := cell_ext hE ha
    have hsz := hE.size
    by_cases hlt : k < ps.length
    · rcases (HV.out.own.ext hE).src.2 with ⟨h1, h2⟩ | ⟨b, off, rfl, hrow⟩
      · rw [List.map_eq_nil_iff] at h2; rw [h2] at hlt; simp at hlt
      have hc := hrow k (by simpa using hlt) 0 (by simp)
      have hc1 : wr.cell? ⟨b, off + k, none⟩ = some ps[k].1 := by simpa using hc
      have hO := (HV.out.each ps[k] (List.getElem_mem hlt)).ext hE
      have HO := Lib.hid hO
      have hi1 := HI.out ps[k] (List.getElem_mem hlt)
      have HI1 := Lib.hid hi1
      clear hE hLL hqs hrow hc hO hi1
      go_wp2_with fail
      refine (pick1_any ps[k].2 ps[k].1 n hn HI1.out B0 ⟨ab, ao, none⟩ _ (HO.out.ext (by exact (by repeat (first | exact Below.refl _ _ | refine Ext.al ?_ _ | refine Ext.dr ?_ | refine Ext.drN ?_ _ | refine Ext.gr ?_ _ | refine Ext.set ?_ (by simp) _ | (refine Ext.trans' ?_ (by assumption)))))) (by assumption) rfl).mono ?_
      rintro e W1 ⟨v1, qs1, rfl, hE1, hLL1, hq1⟩
      obtain ⟨sa1, n1, cap1, rfl⟩ := hLL1.own.isSlice
      obtain ⟨hn1, hsrc1⟩ := hLL1.own.src
      have hqq : (qs ++ qs1).map (·.2) = ((ps.take (k + 1)).map (·.2)).flatMap (nxt n) := by
        rw [List.map_append, HQS.out, hq1, List.take_succ_eq_append_getElem hlt, List.map_append, List.flatMap_append]
        simp only [List.map_cons, List.map_nil, List.flatMap_cons, List.flatMap_nil, List.append_nil]
      have hql : qs.length + qs1.length ≤ 1024 := by
        have h1 := congrArg List.length hqq
        have h2 := HLEN.out
        rw [← List.take_append_drop (k + 1) ps] at h2
        simp only [List.map_append, List.flatMap_append, List.length_append] at h2
        simp only [List.length_map, List.length_append] at h1
        omega
      have hs1 := hE1.size
      have HN1 := Lib.hid hn1
      have HSRC := Lib.hid hsrc1
      have HE1 := Lib.hid hE1
      have HLL1 := Lib.hid (hLL1.base (B' := w.heap.size) hsz)
      have HLL0 := Lib.hid ((HLL.out : LL wr _ _ _).ext hE1)
      have HQQ := Lib.hid hqq
      obtain ⟨sa2, n2, cap2, hu4⟩ := (HLL.out : LL wr _ _ _).own.isSlice
      subst hu4
      clear hn1 hsrc1 hE1 hLL1 hqq hq1 ha' hc1
      go_wp2_with (at_builtin; refine wpApp rfl (.tmp 14) (.tmp 17) elLst rfl w.heap.size rfl (HLL0.out.own) sa1 cap1 (qs1.map fun x => [x.1]) (by rw [← HN1.out]; rfl) one_rows HSRC.out (ll_one HLL1.out) (by simp; omega) (by omega) ?_)
      intro v2 w2 hown2 hk2
      obtain ⟨sa3, n3, cap3, rfl⟩ := hown2.isSlice
      have HO2 := Lib.hid hown2
      have HK2 := Lib.hid hk2
      clear hown2 hk2
      go_wp2_with fail
      go_roundw
      case rel =>
        refine ⟨k + 1, qs ++ qs1, by omega, by go_num, (HE.out.trans (HE1.out.mono hsz)).trans (HLL0.out.own.keptBelow (by omega) HK2.out), ⟨by simpa using HO2.out, fun x hx => ?_⟩, HQQ.out⟩
        rcases List.mem_append.1 hx with hx | hx
        · exact (HLL0.out.each x hx).keep (by decide) HLL0.out.own HK2.out
        · exact (HLL1.out.each x hx).keep (by decide) HLL0.out.own HK2.out
      case measure => simp [intOf]; omega
    · go_wp2_with fail
      go_ret
      refine ⟨_, qs, rfl, HE.out, HLL.out, ?_⟩
      rw [HQS.out, List.take_of_length_le (by omega)]
end Go.Proofs.Ytgcldgchhdjnhaa
