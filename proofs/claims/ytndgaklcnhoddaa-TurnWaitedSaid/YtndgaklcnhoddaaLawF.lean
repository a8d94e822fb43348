/-
  The walk of the statements' function first: which of two lists comes first?
-/
import Derived.Test.YtndgaklcnhoddaaRefP
namespace Go.Proofs.Ytndgaklcnhoddaa
open Go.RowKit Go.Shelf
set_option maxRecDepth 100000 in
set_option maxHeartbeats 2000000 in
theorem firstL_any (s t : List Int) (sv tv : Value) (w : World) (hs : IsInts w .i64 sv s) (ht : IsInts w .i64 tv t) (hl : s.length = t.length) :
    Calls Try.prog 58 #[sv, tv] w fun e W => e = .returned (.bool (befr s t)) ∧ Ext w W := by
  obtain ⟨sa, cap, rfl, h1, h2, -⟩ := hs.spec
  obtain ⟨ta, tcap, rfl, h3, h4, -⟩ := ht.spec
  have HS := Lib.hid hs
  have HT := Lib.hid ht
  have HLL := Lib.hid hl
  clear hs ht hl
  go_enter Try.func58, Try.ntmps58
  go_wp2_with fail
  go_loopw [5] (fun i W => ∃ k : Nat, k ≤ s.length ∧ i = .int .i64 k ∧ befr s t = befr (s.drop k) (t.drop k) ∧ Ext w W) (fun i _ => s.length - (intOf i).toNat)
  case atStart => exact ⟨0, by omega, rfl, by simp, Below.refl _ _⟩
  case round =>
    obtain ⟨k, hk, rfl, hok, hE⟩ := hrel
    have HOK := Lib.hid hok
    have HE := Lib.hid hE
    by_cases hlt : k < s.length
    · have hki : (k : Int) < (s.length : Int) := by omega
      have hkt : k < t.length := by rw [← HLL.out]; exact hlt
      have hkti : (k : Int) < (t.length : Int) := by omega
      obtain ⟨b, off, rfl, hz1, HC⟩ := HS.out.at_all (by omega)
      obtain ⟨b2, off2, rfl, hz2, HC2⟩ := HT.out.at_all (by omega)
      have d0 := HC wr hE k hlt
      have d1 := HC2 wr hE k hkt
      have hbz := World.block_lt_of_cell? _ _ d0
      have hbz2 := World.block_lt_of_cell? _ _ d1
      simp only at hbz hbz2
      have hdr := befr_drop hlt hkt
      obtain ⟨x, hx⟩ : ∃ x, x = gt s k := ⟨_, rfl⟩
      obtain ⟨y, hy⟩ : ∃ y, y = gt t k := ⟨_, rfl⟩
      rw [← hx] at d0 hdr
      rw [← hy] at d1 hdr
      have HDR := Lib.hid hdr
      clear hE HC HC2 hx hy hok hdr
      by_cases hxy : x = y
      · subst hxy
        have hd : (x != x) = false := by simp
        go_upto_region 4 with (fail)
        go_quiet (fail)
        go_wp2_with fail
        go_roundw
        case rel => exact ⟨k + 1, by omega, by go_num, by rw [HOK.out, HDR.out, if_neg (by simp)], HE.out.drN _⟩
        case measure => simp [intOf]; omega
      · have hd : (x != y) = true := by simpa using hxy
        have hb : befr s t = decide (x < y) := by rw [HOK.out, HDR.out, if_pos hxy]
        have HBB := Lib.hid hb
        clear hxy hb
        go_upto_region 4 with (fail)
        go_quiet (fail)
        go_upto_region 5 with (fail)
        go_quiet (fail)
        go_wp2_with fail
        go_ret
        exact ⟨ret_bool HBB.out.symm, (HE.out.drN _).drN _⟩
    · have hki : ¬ ((k : Int) < (s.length : Int)) := by omega
      have hb : befr s t = false := by
        have h := HOK.out
        rw [List.drop_of_length_le (by omega)] at h
        rw [h]; rfl
      have HBB := Lib.hid hb
      clear hok hE hb
      go_wp2_with fail
      go_ret
      exact ⟨ret_bool HBB.out.symm, HE.out⟩
end Go.Proofs.Ytndgaklcnhoddaa
