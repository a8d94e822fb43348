/-
  The walks of the reference's Bits, Without, Fewest, Wrong, Lists and Kind.
-/
import Derived.Test.YtgcldgchhdjnhaaLawG
import Derived.Test.YtgcldgchhdjnhaaRefS
namespace Go.Proofs.Ytgcldgchhdjnhaa
open Go.RowKit Go.Shelf
/-- one bit of a number -/
theorem bits_and1 (x : Int) (h0 : 0 ≤ x) (h1 : x ≤ 4294967295) : bits .and .i64 x 1 = x % 2 := by
  obtain ⟨n, rfl⟩ : ∃ n : Nat, x = n := ⟨x.toNat, by omega⟩
  have e : (BitVec.ofInt IntKind.i64.bits (n : Int) &&& BitVec.ofInt IntKind.i64.bits 1).toNat = n % 2 := by
    show (BitVec.ofInt 64 (n : Int) &&& BitVec.ofInt 64 1).toNat = n % 2
    simp [BitVec.toNat_and]
  unfold bits
  simp only
  rw [e, IntWalk.i64_in _ (by omega)]
  simp
theorem shr_nat (n k : Nat) : (n : Int) / 2 ^ k = ((n >>> k : Nat) : Int) := by
  rw [Nat.shiftRight_eq_div_pow]; simp
theorem bit_test (n k : Nat) : ((n >>> k) % 2 = 1) ↔ n.testBit k = true := by
  simp [Nat.testBit]
theorem bitsL_succ (k n : Nat) : bitsL (k + 1) n = bitsL k n ++ if n.testBit k then [(k : Int)] else [] := by
  unfold bitsL
  rw [List.range_succ, List.filter_append, List.map_append]
  congr 1
  by_cases h : n.testBit k = true
  · simp [h]
  · simp [h]
theorem bitsL_more {n m : Nat} (h : n < 2 ^ m) : ∀ j, bitsL (m + j) n = bitsL m n
  | 0 => rfl
  | j + 1 => by
    rw [← Nat.add_assoc, bitsL_succ, bitsL_more h j, if_neg, List.append_nil]
    have := Nat.testBit_lt_two_pow (Nat.lt_of_lt_of_le h (Nat.pow_le_pow_right (by omega) (Nat.le_add_right m j)))
    simp [this]
theorem bitsL_same {n a b : Nat} (ha : n < 2 ^ a) (hb : n < 2 ^ b) : bitsL a n = bitsL b n := by
  rcases Nat.le_total a b with h | h
  · obtain ⟨j, rfl⟩ := Nat.le.dest h
    exact (bitsL_more ha j).symm
  · obtain ⟨j, rfl⟩ := Nat.le.dest h
    exact bitsL_more hb j
theorem bitsL_len (k n : Nat) : (bitsL k n).length ≤ k := by
  unfold bitsL
  rw [List.length_map]
  exact Nat.le_trans (List.length_filter_le _ _) (by simp)
set_option maxRecDepth 100000 in
set_option maxHeartbeats 1000000 in
theorem bitsR_any (n : Nat) (hn : n < 65536) (w : World) :
    Calls Try.prog 54 #[.int .i64 n] w fun e w' => ∃ v, e = .returned v ∧ Ext w w' ∧ Owns w' w.heap.size 3 1 v ((bitsL 16 n).map iRow) := by
  go_enter Try.func54, Try.ntmps54
  go_wp2_with fail
  go_loopw [3, 4] (fun v i W => ∃ k : Nat, k ≤ 16 ∧ i = .int .i64 k ∧ Ext w W ∧ Owns W w.heap.size 3 1 v ((bitsL k n).map iRow)) (fun _ i _ => 16 - (intOf i).toNat)
  case atStart => exact ⟨0, by omega, rfl, Below.refl _ _, Owns.nil _ _ _ _⟩
  case round =>
    obtain ⟨k, hk, rfl, hE, hown⟩ := hrel
    have HE := Lib.hid hE
    have HO := Lib.hid hown
    obtain ⟨m, hm⟩ : ∃ m, m = n >>> k := ⟨_, rfl⟩
    have hs : (n : Int) / 2 ^ k = (m : Int) := by rw [shr_nat, hm]
    have hmn : m ≤ 65536 := by rw [hm, Nat.shiftRight_eq_div_pow]; exact Nat.le_trans (Nat.div_le_self _ _) (by omega)
    have HM := Lib.hid hm
    have hsz := hE.size
    obtain ⟨sa, sn, sc, rfl⟩ := hown.isSlice
    by_cases hgt : 0 < m
    · have hk16 : k < 16 := by
        rcases Nat.lt_or_ge k 16 with h | h
        · exact h
        · have : m = 0 := by rw [hm, Nat.shiftRight_eq_div_pow]; exact Nat.div_eq_of_lt (Nat.lt_of_lt_of_le hn (by have := Nat.pow_le_pow_right (n := 2) (by omega) h; omega))
          omega
      have hbit := bit_test n k
      rw [← hm] at hbit
      have HBIT := Lib.hid hbit
      clear hE hown hm hbit
      by_cases hb : m % 2 = 1
      · have hb1 : bits .and .i64 (m : Int) 1 = 1 := by rw [bits_and1 _ (by omega) (by omega)]; omega
        have hlk := bitsL_len k n
        have HB := Lib.hid hb
        clear hb
        go_wp2_with (at_builtin; refine wpOwn rfl (.tmp 16) (.tmp 18) elInt rfl w.heap.size rfl (HO.out.ext (by exact (by repeat (first | exact Below.refl _ _ | refine Ext.al ?_ _ | refine Ext.dr ?_ | refine Ext.drN ?_ _ | refine Ext.gr ?_ _ | refine Ext.set ?_ (by simp) _ | (refine Ext.trans' ?_ (by assumption)))))) wr.heap.size 0 1 [[.int .i64 k]] rfl (by simp) (newRowAt _ [.int .i64 k] _ _ _ rfl rfl) (by simp [Value.oneCell']) (by simp; omega) (by simp; omega) ?_)
        intro v' w' hown' hb'
        obtain ⟨sa', n', cap', rfl⟩ := hown'.isSlice
        have HO' := Lib.hid hown'
        have HE' := Lib.hid (HE.out.trans (Below.trans (by exact ((Below.refl _ _).alloc (by omega) _)) hb') : Ext w w')
        clear hown' hb' hlk
        go_wp2_with fail
        go_roundw
        case rel =>
          refine ⟨k + 1, by omega, by go_num, HE'.out, ?_⟩
          rw [bitsL_succ, if_pos (HBIT.out.1 HB.out)]
          simpa [iRow] using HO'.out
        case measure => simp [intOf]; omega
      · have hb1 : bits .and .i64 (m : Int) 1 = 0 := by rw [bits_and1 _ (by omega) (by omega)]; omega
        have HB := Lib.hid hb
        clear hb
        go_wp2_with fail
        go_roundw
        case rel =>
          refine ⟨k + 1, by omega, by go_num, HE.out, ?_⟩
          rw [bitsL_succ, if_neg (fun h => HB.out (HBIT.out.2 h)), List.append_nil]
          exact HO.out
        case measure => simp [intOf]; omega
    · obtain rfl : m = 0 := by omega
      have e : bitsL k n = bitsL 16 n := by
        have : n < 2 ^ k := by
          rw [Nat.shiftRight_eq_div_pow] at hm
          exact (Nat.div_eq_zero_iff_lt (by exact Nat.two_pow_pos k)).1 hm.symm
        exact bitsL_same this (by omega)
      have HEQ := Lib.hid e
      clear hE hown hm e
      go_wp2_with fail
      refine bodyPost_ret (v := .slice sa sn sc) (by simp [results, Try.results54, go_sem]) rfl ⟨_, rfl, HE.out, ?_⟩
      rw [← HEQ.out]
      exact HO.out
theorem bits_has {n k : Nat} (hk : k < 16) : (bitsL 16 n).contains (k : Int) = n.testBit k := by
  rw [Bool.eq_iff_iff, List.contains_iff_mem, bits_mem]
  simp; omega
set_option maxRecDepth 100000 in
set_option maxHeartbeats 2000000 in
theorem without_any (h : Hall) (sv : Value) (n : Nat) (hn : n < 65536) (w : World) (hs : IsCnts w sv h.cs) (h10 : h.cs.length ≤ 10) :
    Calls Try.prog 53 #[.agg #[.int .i64 h.n, .int .i64 h.most, sv], .int .i64 n] w (RetHall (wo h (bitsL 16 n)) w) := by
  obtain ⟨sa, cap, rfl, hl1, hl2, -⟩ := hs.spec
  have HS0 := Lib.hid hs
  clear hs
  go_enter Try.func53, Try.ntmps53
  go_upto_region 2 with (fail)
  obtain ⟨s, hs⟩ : ∃ s, s = w.heap.size := ⟨_, rfl⟩
  obtain ⟨W0, hW0⟩ : ∃ W0, W0 = ((w.alloc (.cells #[.int .i64 h.n, .int .i64 h.most, .slice sa h.cs.length cap] 24)).alloc (.cells #[.int .i64 0, .int .i64 0, .slice none 0 0] 24)).alloc (.cells #[.int .i64 h.n, .int .i64 h.most, .slice none 0 0] 24) := ⟨_, rfl⟩
  have hE : Ext w W0 := by rw [hW0]; exact (by repeat (first | exact Below.refl _ _ | refine Ext.al ?_ _ | refine Ext.dr ?_ | refine Ext.drN ?_ _ | refine Ext.gr ?_ _ | refine Ext.set ?_ (by simp) _ | (refine Ext.trans' ?_ (by assumption))))
  have k2 : W0.cell? ⟨s, 2, none⟩ = some (.slice sa h.cs.length cap) := by rw [hW0, hs]; simp [go_sem]
  have hb : W0.heap[s + 1 + 1]? = some (.cells #[.int .i64 h.n, .int .i64 h.most, .slice none 0 0] 24 (0, 0)) := by
    rw [hW0, hs]
    show (Array.push _ _)[w.heap.size + 1 + 1]? = _
    rw [Array.getElem?_push, if_pos (by simp)]
  have hr : W0.heap[s + 1]? = some (.cells #[.int .i64 0, .int .i64 0, .slice none 0 0] 24 (0, 0)) := by
    rw [hW0, hs]
    show (Array.push (Array.push _ _) _)[w.heap.size + 1]? = _
    rw [Array.getElem?_push, if_neg (by simp), Array.getElem?_push, if_pos (by simp)]
  have hz : W0.heap.size = s + 1 + 1 + 1 := by rw [hW0, hs]; simp
  rw [← hs, ← hW0]
  have HE := Lib.hid hE
  have HSS := Lib.hid hs
  have HB := Lib.hid hb
  have HR := Lib.hid hr
  have HZ := Lib.hid hz
  have HK2 := Lib.hid k2
  clear hW0 hE hs hb hr hz k2
  go_wp2_with fail
  go_loopw [6] (fun i W => ∃ (k : Nat) (xv : Value), k ≤ h.cs.length ∧ i = .int .i64 k ∧ Below (s + 1 + 1) W0 W ∧ W0.heap.size ≤ W.heap.size ∧ W.heap[s + 1 + 1]? = some (.cells #[.int .i64 h.n, .int .i64 h.most, xv] 24 (0, 0)) ∧ Owns W (s + 1 + 1 + 1) 70 4 xv ((kept (bitsL 16 n) 0 (h.cs.take k)).map Cnt.cells)) (fun i _ => h.cs.length - (intOf i).toNat)
  case atStart => exact ⟨0, _, Nat.zero_le _, rfl, Below.refl _ _, Nat.le_refl _, HB.out, Owns.nil _ _ _ _⟩
  case round =>
    obtain ⟨k, xv, hk, rfl, hBl, hsz, hX, hown⟩ := hrel
    have k2 := cell_below hBl (by simp only; omega) HK2.out
    have hz := HZ.out
    obtain ⟨xa, xn, xc, rfl⟩ := hown.isSlice
    have x2 : wr.cell? ⟨s + 1 + 1, 2, none⟩ = some (.slice xa xn xc) := by rw [cell_of_row _ _ _ _ _ _ hX]; rfl
    have x0 : wr.cell? ⟨s + 1 + 1, 0, none⟩ = some (.int .i64 h.n) := by rw [cell_of_row _ _ _ _ _ _ hX]; rfl
    have x1 : wr.cell? ⟨s + 1 + 1, 1, none⟩ = some (.int .i64 h.most) := by rw [cell_of_row _ _ _ _ _ _ hX]; rfl
    have HBL := Lib.hid hBl
    have HX := Lib.hid hX
    have HO := Lib.hid hown
    by_cases hlt : k < h.cs.length
    · rcases HS0.out.opened with e | ⟨cb, coff, rfl, hcc⟩
      · simp [e] at hlt
      obtain ⟨d0, d1, d2, d3⟩ := hcc k hlt
      have hcb : cb < w.heap.size := World.block_lt_of_cell? _ _ d0
      have hsw := HSS.out
      have hew := HE.out.trans (hBl.mono (show w.heap.size ≤ s + 1 + 1 by omega))
      replace d0 := cell_ext hew d0
      replace d1 := cell_ext hew d1
      replace d2 := cell_ext hew d2
      replace d3 := cell_ext hew d3
      have hcs : cb < s := by omega
      clear hcb hsw hew
      have hkt := kept_take (l := bitsL 16 n) hlt
      have hbh := bits_has (n := n) (k := k) (by omega)
      obtain ⟨m, hm⟩ : ∃ m, m = n >>> k := ⟨_, rfl⟩
      have hs : (n : Int) / 2 ^ k = (m : Int) := by rw [shr_nat, hm]
      have hmn : m ≤ 65536 := by rw [hm, Nat.shiftRight_eq_div_pow]; exact Nat.le_trans (Nat.div_le_self _ _) (by omega)
      have hbit := bit_test n k
      rw [← hm] at hbit
      have hln := kept_len (bitsL 16 n) (h.cs.take k) 0
      have hln2 : (kept (bitsL 16 n) 0 (h.cs.take k)).length ≤ 10 := by
        have : (h.cs.take k).length ≤ k := List.length_take_le _ _
        omega
      have HKT := Lib.hid hkt
      have HBH := Lib.hid hbh
      have HBIT := Lib.hid hbit
      clear hcc hX hown hkt hbh hm hbit hln
      by_cases hb : m % 2 = 1
      · have hb1 : bits .and .i64 (m : Int) 1 = 1 := by rw [bits_and1 _ (by omega) (by omega)]; omega
        have HBB := Lib.hid hb
        clear hb
        go_wp2_with fail
        go_roundw
        case rel =>
          refine ⟨k + 1, _, by omega, by go_num, HBL.out, hsz, HX.out, ?_⟩
          rw [HKT.out, HBH.out, if_pos (HBIT.out.1 HBB.out), List.append_nil]
          exact HO.out
        case measure => simp [intOf]; omega
      · have hb1 : bits .and .i64 (m : Int) 1 = 0 := by rw [bits_and1 _ (by omega) (by omega)]; omega
        have HBB := Lib.hid hb
        clear hb
        go_upto_region 6 with (fail)
        have hki : (k : Int) < (h.cs.length : Int) := by omega
        refine wp_region_rove_tail rfl rfl (by kernel_rfl) (s + 1 + 1 + 1) (by omega)
          [sqV (.pointer (some ⟨s + 1 + 1, 2, none⟩)),
           sqW (fun v W => v = .slice xa xn xc ∧ Owns W (s + 1 + 1 + 1) 70 4 v ((kept (bitsL 16 n) 0 (h.cs.take k)).map Cnt.cells)) (fun _ _ _ h e => ⟨h.1, h.2.ext e⟩),
           sqV (.pointer (some ⟨s, 2, none⟩)),
           sqV (.slice (some ⟨cb, coff, none⟩) h.cs.length cap),
           sqV (.int .i64 k),
           sqV (.pointer (some ⟨cb, coff + k * 4, none⟩)),
           sqV (.agg #[.int .i64 (h.cs[k]).f, .int .i64 (h.cs[k]).t, .int .i64 (h.cs[k]).lo, .int .i64 (h.cs[k]).hi]),
           sqW (fun v W => ∃ b, v = .slice (some ⟨b, 0, none⟩) 1 1 ∧ RowsAt W 4 b 0 ([(h.cs[k]).cells])) (fun _ _ _ ⟨b, h1, h2⟩ e => ⟨b, h1, h2.ext e⟩),
           sqW (fun v W => Owns W (s + 1 + 1 + 1) 70 4 v ((kept (bitsL 16 n) 0 (h.cs.take k)).map Cnt.cells ++ [(h.cs[k]).cells])) (fun _ _ _ h e => h.ext e),
           sqV (.pointer (some ⟨s + 1 + 1, 2, none⟩))]
          [true, false, true, true, true, true, true, false, false, true] [false, false, false, false, false, false, false, false, true, false] [true, false, true, true, true, true, true, false, true, true] [true, true, true, true, true, true, true, true, true, false]
          (by kernel_rfl) (by kernel_rfl) (by decide +kernel) (by decide +kernel) (by decide +kernel) rfl rfl ⟨?s0, ?s1, ?s2, ?s3, ?s4, ?s5, ?s6, ?s7, ?s8, ?s9, trivial⟩ [some 24, some 25, some 26, some 27, some 28, some 29, some 30, some 31, some 32, some 33] rfl rfl ?send
        case s0 =>
          intro val ρ W hE hz hd hA hx
          have o0 : ρ (.tmp 5) = .pointer (some ⟨s + 1 + 1, 0, none⟩) := hA.old 5 (by decide)
          clear hd
          exact runq_val (W' := W) (by simp [execOp, o0, go_sem]) (Below.refl _ _) rfl
        case s2 =>
          intro val ρ W hE hz hd hA hx
          have o0 : ρ (.tmp 2) = .pointer (some ⟨s, 0, none⟩) := hA.old 2 (by decide)
          clear hd
          exact runq_val (W' := W) (by simp [execOp, o0, go_sem]) (Below.refl _ _) rfl
        case s3 =>
          intro val ρ W hE hz hd hA hx
          have d2 : ρ (.tmp 26) = .pointer (some ⟨s, 2, none⟩) := (hA.dep 2 (by decide) 26 rfl).trans (hd 2 (by decide))
          have f_k2 := cell_below hE (by simp only; omega) k2
          clear hd
          exact runq_val (W' := W) (by simp [execOp, d2, f_k2, go_sem]) (Below.refl _ _) rfl
        case s4 =>
          intro val ρ W hE hz hd hA hx
          have o0 : ρ (.tmp 6) = .int .i64 k := hA.old 6 (by decide)
          clear hd
          exact runq_val (W' := W) (by simp [execOp, o0, go_sem]) (Below.refl _ _) rfl
        case s5 =>
          intro val ρ W hE hz hd hA hx
          have d3 : ρ (.tmp 27) = .slice (some ⟨cb, coff, none⟩) h.cs.length cap := (hA.dep 3 (by decide) 27 rfl).trans (hd 3 (by decide))
          have d4 : ρ (.tmp 28) = .int .i64 k := (hA.dep 4 (by decide) 28 rfl).trans (hd 4 (by decide))
          clear hd
          exact runq_val (W' := W) (by simp [execOp, d3, d4, hki, go_sem]) (Below.refl _ _) rfl
        case s6 =>
          intro val ρ W hE hz hd hA hx
          have d5 : ρ (.tmp 29) = .pointer (some ⟨cb, coff + k * 4, none⟩) := (hA.dep 5 (by decide) 29 rfl).trans (hd 5 (by decide))
          have f_d0 := cell_below hE (by simp only; omega) d0
          have f_d1 := cell_below hE (by simp only; omega) d1
          have f_d2 := cell_below hE (by simp only; omega) d2
          have f_d3 := cell_below hE (by simp only; omega) d3
          clear hd
          exact runq_val (W' := W) (by simp [execOp, d5, f_d0, f_d1, f_d2, f_d3, go_sem]) (Below.refl _ _) rfl
        case s7 =>
          intro val ρ W hE hz hd hA hx
          have d6 : ρ (.tmp 30) = .agg #[.int .i64 (h.cs[k]).f, .int .i64 (h.cs[k]).t, .int .i64 (h.cs[k]).lo, .int .i64 (h.cs[k]).hi] := (hA.dep 6 (by decide) 30 rfl).trans (hd 6 (by decide))
          clear hd hA
          refine runq_val (by simp [execOp, d6, go_sem]; exact ⟨rfl, rfl⟩) (by exact (by repeat (first | exact Below.refl _ _ | refine Ext.al ?_ _ | refine Ext.dr ?_ | refine Ext.drN ?_ _ | refine Ext.gr ?_ _ | refine Ext.set ?_ (by simp) _ | (refine Ext.trans' ?_ (by assumption))))) ⟨_, rfl, newRows _ ([(h.cs[k]).cells]) _ _ _ 4 rfl (by simp [Cnt.cells]) (by simp [Cnt.cells])⟩
        case s9 =>
          intro val ρ W hE hz hd hA hx
          have o0 : ρ (.tmp 5) = .pointer (some ⟨s + 1 + 1, 0, none⟩) := hA.old 5 (by decide)
          clear hd
          exact runq_val (W' := W) (by simp [execOp, o0, go_sem]) (Below.refl _ _) rfl
        case s1 =>
          intro val ρ W hE hz hd hA hx
          have d0 : ρ (.tmp 24) = .pointer (some ⟨s + 1 + 1, 2, none⟩) := (hA.dep 0 (by decide) 24 rfl).trans (hd 0 (by decide))
          have f1 := cell_below hE (by simp only; omega) x2
          exact runq_val (W' := W) (by simp [execOp, d0, f1, go_sem]) (Below.refl _ _) ⟨rfl, HO.out.ext (hx rfl)⟩
        case s8 =>
          intro val ρ W hE hz hd hA hx
          obtain ⟨v1, o1⟩ : val 1 = .slice xa xn xc ∧ Owns W (s + 1 + 1 + 1) 70 4 (val 1) ((kept (bitsL 16 n) 0 (h.cs.take k)).map Cnt.cells) := hd 1 (by decide)
          have e1 : ρ (.tmp 25) = val 1 := hA.dep 1 (by decide) 25 rfl
          obtain ⟨b, hv7, d7⟩ : ∃ b, val 7 = .slice (some ⟨b, 0, none⟩) 1 1 ∧ RowsAt W 4 b 0 [(h.cs[k]).cells] := hd 7 (by decide)
          have e7 : ρ (.tmp 31) = .slice (some ⟨b, 0, none⟩) 1 1 := (hA.dep 7 (by decide) 31 rfl).trans hv7
          obtain ⟨v', w', hrun, ho, hb⟩ := app_run elCnt 22 (s + 1 + 1 + 1) o1 b 0 1 [(h.cs[k]).cells] (by simp [Cnt.cells]) d7 (by simp [Cnt.cells, Value.oneCell']) (by simp; omega) (by omega)
          exact runq_append (.tmp 25) (.tmp 31) rfl rfl _ _ e1 e7 hrun hb ho
        case send =>
          intro val WW hE hzz hv
          obtain ⟨-, -, -, -, -, -, -, -, r8, r9, -⟩ := hv
          have q8 : Owns WW (s + 1 + 1 + 1) 70 4 (val 8) ((kept (bitsL 16 n) 0 (h.cs.take k)).map Cnt.cells ++ [(h.cs[k]).cells]) := r8
          have q9 : val 9 = .pointer (some ⟨s + 1 + 1, 2, none⟩) := r9
          clear r8 r9
          obtain ⟨va, vn, vc, hv⟩ := q8.isSlice
          have hb := (hE.block _ (by omega)).trans HX.out
          have y2 : WW.cell? ⟨s + 1 + 1, 2, none⟩ = some (.slice xa xn xc) := by rw [cell_of_row _ _ _ _ _ _ hb]; rfl
          have yf : WW.frozen? ⟨s + 1 + 1, 2, none⟩ = false := by simp [World.frozen?, hb]
          have hzy : s + 1 + 1 < WW.heap.size := by omega
          have HY := Lib.hid hb
          have HBW := Lib.hid (HBL.out.trans (hE.mono (by omega)))
          have hsz2 : W0.heap.size ≤ WW.heap.size := by omega
          clear hb hE x0 x1 x2 k2 d0 d1 d2 d3 hb1 hs
          simp only [putD, q9, hv]
          go_frame
          rw [hv] at q8
          have HQ := Lib.hid q8
          clear q9 hv q8
          go_wp2_with fail
          go_roundw
          case rel =>
            refine ⟨k + 1, .slice va vn vc, by omega, by go_num, HBW.out.setCell (by simp only; omega) _, by simp; omega, heap_setCell_row HY.out 2 _, ?_⟩
            rw [HKT.out, HBH.out, if_neg (fun h => HBB.out (HBIT.out.2 h)), List.map_append]
            exact HQ.out.of_heap fun j hj _ => Below.heap_setCell _ _ _ _ (by simp only; omega)
          case measure => simp [intOf]; omega
    · obtain rfl : k = h.cs.length := by omega
      rw [List.take_length] at hown
      have HO' := Lib.hid hown
      have hr := (hBl.block _ (by omega)).trans HR.out
      have r0 : wr.cell? ⟨s + 1, 0, none⟩ = some (.int .i64 0) := by rw [cell_of_row _ _ _ _ _ _ hr]; rfl
      have r1 : wr.cell? ⟨s + 1, 1, none⟩ = some (.int .i64 0) := by rw [cell_of_row _ _ _ _ _ _ hr]; rfl
      have r2 : wr.cell? ⟨s + 1, 2, none⟩ = some (.slice none 0 0) := by rw [cell_of_row _ _ _ _ _ _ hr]; rfl
      have rf : ∀ o, wr.frozen? ⟨s + 1, o, none⟩ = false := fun o => by simp [World.frozen?, hr]
      have hzr : s + 1 + 1 < wr.heap.size := by omega
      clear hX hown hBl hr
      go_wp2_with fail
      refine bodyPost_ret (v := .agg #[.int .i64 h.n, .int .i64 h.most, .slice xa xn xc]) (by simp [results, Try.results53, go_sem, r0, r1, r2]) rfl ?_
      have HEW := Lib.hid (HE.out.trans (HBL.out.mono (by have := HSS.out; omega)) : Ext w wr)
      have hsw := HSS.out
      refine ⟨_, rfl, ((HEW.out.setCell (by simp only; omega) _).setCell (by simp only; omega) _).setCell (by simp only; omega) _, ?_⟩
      have := HO'.out.of_heap (w' := ((wr.setCell ⟨s + 1, 0, none⟩ (.int .i64 h.n)).setCell ⟨s + 1, 1, none⟩ (.int .i64 h.most)).setCell ⟨s + 1, 2, none⟩ (.slice xa xn xc)) fun k hk _ => by
        rw [Below.heap_setCell _ _ _ _ (by simp only; omega), Below.heap_setCell _ _ _ _ (by simp only; omega), Below.heap_setCell _ _ _ _ (by simp only; omega)]
      exact this.isRows
end Go.Proofs.Ytgcldgchhdjnhaa
