/-
  The walks of the reference's Bits and before.
-/
import Derived.Test.YtndgaklcnhoddaaRefO
namespace Go.Proofs.Ytndgaklcnhoddaa
open Go.RowKit Go.Shelf
/-- one bit of a number -/
theorem bits_and1 (x : Int) (h0 : 0 ≤ x) (h1 : x ≤ 4294967295) : bits .and .i64 x 1 = x % 2 := by
  obtain ⟨n, rfl⟩ : ∃ n : Nat, x = n := ⟨x.toNat, by omega⟩
  have e : (BitVec.ofInt IntKind.i64.bits (n : Int) &&& BitVec.ofInt IntKind.i64.bits 1).toNat = n % 2 := by
    show (BitVec.ofInt 64 (n : Int) &&& BitVec.ofInt 64 1).toNat = n % 2
    simp [BitVec.toNat_and]
  unfold bits
  simp only
  rw [e, IntWalk.i64_in _ (by omega)]
  simp
theorem shr_nat (n k : Nat) : (n : Int) / 2 ^ k = ((n >>> k : Nat) : Int) := by
  rw [Nat.shiftRight_eq_div_pow]; simp
theorem bit_test (n k : Nat) : ((n >>> k) % 2 = 1) ↔ n.testBit k = true := by
  simp [Nat.testBit]
theorem bitsL_succ (k n : Nat) : bitsL (k + 1) n = bitsL k n ++ if n.testBit k then [(k : Int)] else [] := by
  unfold bitsL
  rw [List.range_succ, List.filter_append, List.map_append]
  congr 1
  by_cases h : n.testBit k = true
  · simp [h]
  · simp [h]
theorem bitsL_more {n m : Nat} (h : n < 2 ^ m) : ∀ j, bitsL (m + j) n = bitsL m n
  | 0 => rfl
  | j + 1 => by
    rw [← Nat.add_assoc, bitsL_succ, bitsL_more h j, if_neg, List.append_nil]
    have := Nat.testBit_lt_two_pow (Nat.lt_of_lt_of_le h (Nat.pow_le_pow_right (by omega) (Nat.le_add_right m j)))
    simp [this]
theorem bitsL_same {n a b : Nat} (ha : n < 2 ^ a) (hb : n < 2 ^ b) : bitsL a n = bitsL b n := by
  rcases Nat.le_total a b with h | h
  · obtain ⟨j, rfl⟩ := Nat.le.dest h
    exact (bitsL_more ha j).symm
  · obtain ⟨j, rfl⟩ := Nat.le.dest h
    exact bitsL_more hb j
theorem bitsL_len (k n : Nat) : (bitsL k n).length ≤ k := by
  unfold bitsL
  rw [List.length_map]
  exact Nat.le_trans (List.length_filter_le _ _) (by simp)
set_option maxRecDepth 100000 in
set_option maxHeartbeats 1000000 in
theorem bitsR_any (n : Nat) (hn : n < 65536) (w : World) :
    Calls Try.prog 48 #[.int .i64 n] w fun e w' => ∃ v, e = .returned v ∧ Ext w w' ∧ Owns w' w.heap.size 3 1 v ((bitsL 16 n).map iRow) := by
  go_enter Try.func48, Try.ntmps48
  go_wp2_with fail
  go_loopw [3, 4] (fun v i W => ∃ k : Nat, k ≤ 16 ∧ i = .int .i64 k ∧ Ext w W ∧ Owns W w.heap.size 3 1 v ((bitsL k n).map iRow)) (fun _ i _ => 16 - (intOf i).toNat)
  case atStart => exact ⟨0, by omega, rfl, Below.refl _ _, Owns.nil _ _ _ _⟩
  case round =>
    obtain ⟨k, hk, rfl, hE, hown⟩ := hrel
    have HE := Lib.hid hE
    have HO := Lib.hid hown
    obtain ⟨m, hm⟩ : ∃ m, m = n >>> k := ⟨_, rfl⟩
    have hs : (n : Int) / 2 ^ k = (m : Int) := by rw [shr_nat, hm]
    have hmn : m ≤ 65536 := by rw [hm, Nat.shiftRight_eq_div_pow]; exact Nat.le_trans (Nat.div_le_self _ _) (by omega)
    have HM := Lib.hid hm
    have hsz := hE.size
    obtain ⟨sa, sn, sc, rfl⟩ := hown.isSlice
    by_cases hgt : 0 < m
    · have hk16 : k < 16 := by
        rcases Nat.lt_or_ge k 16 with h | h
        · exact h
        · have : m = 0 := by rw [hm, Nat.shiftRight_eq_div_pow]; exact Nat.div_eq_of_lt (Nat.lt_of_lt_of_le hn (by have := Nat.pow_le_pow_right (n := 2) (by omega) h; omega))
          omega
      have hbit := bit_test n k
      rw [← hm] at hbit
      have HBIT := Lib.hid hbit
      clear hE hown hm hbit
      by_cases hb : m % 2 = 1
      · have hb1 : bits .and .i64 (m : Int) 1 = 1 := by rw [bits_and1 _ (by omega) (by omega)]; omega
        have hlk := bitsL_len k n
        have HB := Lib.hid hb
        clear hb
        go_wp2_with (at_builtin; refine wpOwn rfl (.tmp 16) (.tmp 18) elInt rfl w.heap.size rfl (HO.out.ext (by exact (by repeat (first | exact Below.refl _ _ | refine Ext.al ?_ _ | refine Ext.dr ?_ | refine Ext.drN ?_ _ | refine Ext.gr ?_ _ | refine Ext.set ?_ (by simp) _ | (refine Ext.trans' ?_ (by assumption)))))) wr.heap.size 0 1 [[.int .i64 k]] rfl (by simp) (newRowAt _ [.int .i64 k] _ _ _ rfl rfl) (by simp [Value.oneCell']) (by simp; omega) (by simp; omega) ?_)
        intro v' w' hown' hb'
        obtain ⟨sa', n', cap', rfl⟩ := hown'.isSlice
        have HO' := Lib.hid hown'
        have HE' := Lib.hid (HE.out.trans (Below.trans (by exact ((Below.refl _ _).alloc (by omega) _)) hb') : Ext w w')
        clear hown' hb' hlk
        go_wp2_with fail
        go_roundw
        case rel =>
          refine ⟨k + 1, by omega, by go_num, HE'.out, ?_⟩
          rw [bitsL_succ, if_pos (HBIT.out.1 HB.out)]
          simpa [iRow] using HO'.out
        case measure => simp [intOf]; omega
      · have hb1 : bits .and .i64 (m : Int) 1 = 0 := by rw [bits_and1 _ (by omega) (by omega)]; omega
        have HB := Lib.hid hb
        clear hb
        go_wp2_with fail
        go_roundw
        case rel =>
          refine ⟨k + 1, by omega, by go_num, HE.out, ?_⟩
          rw [bitsL_succ, if_neg (fun h => HB.out (HBIT.out.2 h)), List.append_nil]
          exact HO.out
        case measure => simp [intOf]; omega
    · obtain rfl : m = 0 := by omega
      have e : bitsL k n = bitsL 16 n := by
        have : n < 2 ^ k := by
          rw [Nat.shiftRight_eq_div_pow] at hm
          exact (Nat.div_eq_zero_iff_lt (by exact Nat.two_pow_pos k)).1 hm.symm
        exact bitsL_same this (by omega)
      have HEQ := Lib.hid e
      clear hE hown hm e
      go_wp2_with fail
      refine bodyPost_ret (v := .slice sa sn sc) (by simp [results, Try.results48, go_sem]) rfl ⟨_, rfl, HE.out, ?_⟩
      rw [← HEQ.out]
      exact HO.out
theorem bitsR5_any (m n : Nat) (hm : m ≤ 16) (hn : n < 2 ^ m) (w : World) :
    Calls Try.prog 48 #[.int .i64 n] w fun e W => ∃ v, e = .returned v ∧ Ext w W ∧ IsInts W .i64 v (bitsL m n) := by
  have h16 : n < 65536 := by
    have := Nat.pow_le_pow_right (n := 2) (by omega) hm
    omega
  refine (bitsR_any n h16 w).mono ?_
  rintro e W ⟨v, rfl, hE, ho⟩
  refine ⟨v, rfl, hE, ?_⟩
  rw [bitsL_same hn (b := 16) (by omega)]
  exact ho.oneInts
theorem befr_lex : ∀ {a b : List Int}, a.length = b.length → (befr a b = true ↔ lex a b)
  | [], [], _ => by simp [befr, lex]
  | x :: a, y :: b, h => by
    have ih := befr_lex (a := a) (b := b) (by simpa using h)
    unfold befr lex
    by_cases e : x = y
    · subst e
      simp [ih]
    · simp [e]
def befB (a b : List Int) : Bool := if a.length = b.length then befr a b else decide (a.length < b.length)
theorem befB_iff (a b : List Int) : befB a b = true ↔ befL a b := by
  unfold befB befL
  by_cases h : a.length = b.length
  · rw [if_pos h, befr_lex h]
    constructor
    · exact fun h2 => .inr ⟨h, h2⟩
    · rintro (h2 | ⟨_, h2⟩)
      · omega
      · exact h2
  · rw [if_neg h, decide_eq_true_eq]
    constructor
    · exact .inl
    · rintro (h2 | ⟨h2, _⟩)
      · exact h2
      · exact absurd h2 h
theorem befr_drop {a b : List Int} {k : Nat} (h1 : k < a.length) (h2 : k < b.length) : befr (a.drop k) (b.drop k) = if gt a k ≠ gt b k then decide (gt a k < gt b k) else befr (a.drop (k + 1)) (b.drop (k + 1)) := by
  rw [List.drop_eq_getElem_cons h1, List.drop_eq_getElem_cons h2, befr, gt_get h1, gt_get h2]
  by_cases e : gt a k = gt b k
  · simp [e]
  · simp [e]
set_option maxRecDepth 100000 in
set_option maxHeartbeats 2000000 in
theorem beforeR_any (s t : List Int) (sv tv : Value) (w : World) (hs : IsInts w .i64 sv s) (ht : IsInts w .i64 tv t) :
    Calls Try.prog 90 #[sv, tv] w fun e W => e = .returned (.bool (befB s t)) ∧ Ext w W := by
  obtain ⟨sa, cap, rfl, h1, h2, -⟩ := hs.spec
  obtain ⟨ta, tcap, rfl, h3, h4, -⟩ := ht.spec
  have HS := Lib.hid hs
  have HT := Lib.hid ht
  clear hs ht
  go_enter Try.func90, Try.ntmps90
  by_cases hl : s.length = t.length
  rotate_left
  · have hd : ((s.length : Int) != (t.length : Int)) = true := by rw [bne_iff_ne]; omega
    have hd2 : (s.length != t.length) = true := by rw [bne_iff_ne]; exact hl
    have hb : befB s t = decide (s.length < t.length) := by unfold befB; rw [if_neg hl]
    have HB := Lib.hid hb
    clear hl hb
    by_cases hlt : s.length < t.length
    · have d1 : decide ((s.length : Int) < (t.length : Int)) = true := decide_eq_true (by omega)
      have d2 : decide (s.length < t.length) = true := decide_eq_true hlt
      have HD := Lib.hid d2
      clear hlt
      go_wp2_with fail
      go_ret
      exact ⟨ret_bool (by rw [HB.out, HD.out]), Below.refl _ _⟩
    · have d1 : decide ((s.length : Int) < (t.length : Int)) = false := decide_eq_false (by omega)
      have d2 : decide (s.length < t.length) = false := decide_eq_false hlt
      have HD := Lib.hid d2
      clear hlt
      go_wp2_with fail
      go_ret
      exact ⟨ret_bool (by rw [HB.out, HD.out]), Below.refl _ _⟩
  have hd : ((s.length : Int) != (t.length : Int)) = false := by rw [bne_eq_false_iff_eq]; omega
  have hd2 : (s.length != t.length) = false := by rw [bne_eq_false_iff_eq]; exact hl
  have hb : befB s t = befr s t := by unfold befB; rw [if_pos hl]
  have HLL := Lib.hid hl
  have HB := Lib.hid hb
  clear hl hb
  go_wp2_with fail
  go_loopw [5] (fun i W => ∃ k : Nat, k ≤ s.length ∧ i = .int .i64 k ∧ befr s t = befr (s.drop k) (t.drop k) ∧ Ext w W) (fun i _ => s.length - (intOf i).toNat)
  case atStart => exact ⟨0, by omega, rfl, by simp, Below.refl _ _⟩
  case round =>
    obtain ⟨k, hk, rfl, hok, hE⟩ := hrel
    have HOK := Lib.hid hok
    have HE := Lib.hid hE
    by_cases hlt : k < s.length
    · have hki : (k : Int) < (s.length : Int) := by omega
      have hkt : k < t.length := by rw [← HLL.out]; exact hlt
      have hkti : (k : Int) < (t.length : Int) := by omega
      obtain ⟨b, off, rfl, hz1, HC⟩ := HS.out.at_all (by omega)
      obtain ⟨b2, off2, rfl, hz2, HC2⟩ := HT.out.at_all (by omega)
      have d0 := HC wr hE k hlt
      have d1 := HC2 wr hE k hkt
      have hbz := World.block_lt_of_cell? _ _ d0
      have hbz2 := World.block_lt_of_cell? _ _ d1
      simp only at hbz hbz2
      have hdr := befr_drop hlt hkt
      obtain ⟨x, hx⟩ : ∃ x, x = gt s k := ⟨_, rfl⟩
      obtain ⟨y, hy⟩ : ∃ y, y = gt t k := ⟨_, rfl⟩
      rw [← hx] at d0 hdr
      rw [← hy] at d1 hdr
      have HDR := Lib.hid hdr
      clear hE HC HC2 hx hy hok hdr
      by_cases hxy : x = y
      · subst hxy
        have hd : (x != x) = false := by simp
        go_upto_region 6 with (fail)
        go_quiet (fail)
        go_wp2_with fail
        go_roundw
        case rel => exact ⟨k + 1, by omega, by go_num, by rw [HOK.out, HDR.out, if_neg (by simp)], HE.out.drN _⟩
        case measure => simp [intOf]; omega
      · have hd : (x != y) = true := by simpa using hxy
        have hfin : befr s t = decide (x < y) := by rw [HOK.out, HDR.out, if_pos hxy]
        have HFIN := Lib.hid hfin
        clear hxy hfin
        by_cases hlt2 : x < y
        · have hd3 : decide (x < y) = true := decide_eq_true hlt2
          have HD := Lib.hid hd3
          clear hlt2
          go_upto_region 6 with (fail)
          go_quiet (fail)
          go_upto_region 7 with (fail)
          go_quiet (fail)
          go_wp2_with fail
          go_ret
          exact ⟨ret_bool (by rw [HB.out, HFIN.out, HD.out]), (HE.out.drN _).drN _⟩
        · have hd3 : decide (x < y) = false := decide_eq_false hlt2
          have HD := Lib.hid hd3
          clear hlt2
          go_upto_region 6 with (fail)
          go_quiet (fail)
          go_upto_region 7 with (fail)
          go_quiet (fail)
          go_wp2_with fail
          go_ret
          exact ⟨ret_bool (by rw [HB.out, HFIN.out, HD.out]), (HE.out.drN _).drN _⟩
    · have hkl : k = s.length := by omega
      have hki : ¬ ((k : Int) < (s.length : Int)) := by omega
      have hfin : befr s t = false := by rw [hok, hkl, List.drop_length]; rfl
      have HG := Lib.hid hfin
      clear hok hE hkl hfin
      go_wp2_with fail
      go_ret
      exact ⟨ret_bool (by rw [HB.out, HG.out]), HE.out⟩
end Go.Proofs.Ytndgaklcnhoddaa
