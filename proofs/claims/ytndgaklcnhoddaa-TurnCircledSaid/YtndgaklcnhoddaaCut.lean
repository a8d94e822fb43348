/-
  Cutting a list in memory.
-/
import Derived.Test.YtndgaklcnhoddaaLawR
namespace Go.Proofs.Ytndgaklcnhoddaa
open Go.RowKit Go.Shelf
theorem elem_ints : Try.prog.underlying 22 = some (.slice (Try.prog.elem 22)) := by kernel_rfl
theorem size_int (W : World) : (sizeOf (Try.prog.elem 22)).run Try.prog W = .ok 1 W := by kernel_rfl
theorem cut_to (a : Option Addr) (n cap K : Nat) (h : K ≤ cap) (W : World) :
    (Instr.sliceAt 22 (.slice a n cap) none (some (.int .i64 K)) none).run Try.prog W = .ok (sliced a 0 K cap 1) W := by
  rw [run_sliceAt_slice _ _ _ _ _ _ elem_ints, run_slice_h _ _ _ _ _ elem_ints _ _ (by omega) (by omega), size_int]
  rfl
theorem cut_from (a : Option Addr) (n cap K : Nat) (h : K ≤ n) (W : World) :
    (Instr.sliceAt 22 (.slice a n cap) (some (.int .i64 K)) none none).run Try.prog W = .ok (sliced a K n cap 1) W := by
  rw [run_sliceAt_slice _ _ _ _ _ _ elem_ints, run_slice_l _ _ _ _ _ elem_ints _ _ (by omega) (by omega), size_int]
  rfl
theorem IsInts.cut {w : World} {κ : IntKind} {a : Option Addr} {n cap : Nat} {l : List Int} (h : IsInts w κ (.slice a n cap) l) {lo hi : Nat} (h1 : lo ≤ hi) (h2 : hi ≤ n) : IsInts w κ (sliced a lo hi cap 1) ((l.take hi).drop lo) := by
  obtain ⟨sa, cp, e, q1, q2, hcc⟩ := h.spec
  cases e
  have hl : ((l.take hi).drop lo).length = hi - lo := by rw [List.length_drop, List.length_take]; omega
  have hl2 : (((l.take hi).drop lo).map fun n => [Value.int κ n]).length = hi - lo := by rw [List.length_map, hl]
  unfold sliced
  refine ⟨_, _, by rw [hl2], by rw [hl2]; omega, by omega, ?_⟩
  by_cases e0 : hi = lo
  · exact .inl (List.eq_nil_of_length_eq_zero (by rw [hl2]; omega))
  · rcases hcc with hcc | ⟨b, off, rfl, hcc⟩
    · rw [hcc] at h2; simp at h2; omega
    · refine .inr ⟨b, off + lo, ?_, fun i hi => ?_⟩
      · rw [if_neg (by omega)]; simp [Addr.add]
      · have h3 : lo + i < l.length := by omega
        have h4 := hcc (lo + i) h3
        intro j hj
        have hj0 : j = 0 := by simp at hj; omega
        subst hj0
        rw [← Nat.add_assoc] at h4
        simpa using h4
end Go.Proofs.Ytndgaklcnhoddaa
