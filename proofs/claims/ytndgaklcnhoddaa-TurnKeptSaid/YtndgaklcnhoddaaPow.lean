/-
  Plain: powers of two up to the fifth, bits.
-/
import Derived.Test.YtndgaklcnhoddaaRefP
namespace Go.Proofs.Ytndgaklcnhoddaa
open Go.RowKit Go.Shelf
theorem bits_has {n b i : Nat} (hi : i < n) : (bitsL n b).contains (i : Int) = b.testBit i := by
  rw [Bool.eq_iff_iff, List.contains_iff_mem, bits_mem]
  simp; omega
theorem bits_not {n b i : Nat} (hi : i < n) (hb : b < 2 ^ n) : (bitsL n (2 ^ n - 1 - b)).contains (i : Int) = !(bitsL n b).contains (i : Int) := by
  rw [bits_has hi, bits_has hi]
  have e : 2 ^ n - 1 - b = 2 ^ n - (b + 1) := by omega
  rw [e, Nat.testBit_two_pow_sub_succ hb]
  simp [hi]
theorem shl5 {n : Nat} (h : n ≤ 5) : wrap64 (2 ^ n) = ((2 ^ n : Nat) : Int) := by
  match n, h with
  | 0, _ => decide +kernel
  | 1, _ => decide +kernel
  | 2, _ => decide +kernel
  | 3, _ => decide +kernel
  | 4, _ => decide +kernel
  | 5, _ => decide +kernel
theorem shlw5 {n : Nat} (h : n ≤ 5) : IntKind.i64.wrap (2 ^ n) = ((2 ^ n : Nat) : Int) := by
  match n, h with
  | 0, _ => decide +kernel
  | 1, _ => decide +kernel
  | 2, _ => decide +kernel
  | 3, _ => decide +kernel
  | 4, _ => decide +kernel
  | 5, _ => decide +kernel
theorem pow5 {n : Nat} (h : n ≤ 5) : 1 ≤ 2 ^ n ∧ 2 ^ n ≤ 32 := by
  match n, h with
  | 0, _ => decide
  | 1, _ => decide
  | 2, _ => decide
  | 3, _ => decide
  | 4, _ => decide
  | 5, _ => decide
end Go.Proofs.Ytndgaklcnhoddaa
