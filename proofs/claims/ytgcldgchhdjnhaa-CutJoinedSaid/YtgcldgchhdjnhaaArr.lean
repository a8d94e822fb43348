/-
  '==' on arrays of numbers.
-/
import Derived.Test.YtgcldgchhdjnhaaBase
import Derived.ChangeKeysEq
import Derived.Laws.StructEq
namespace Go.Proofs.Ytgcldgchhdjnhaa
open Go.RowKit
theorem eqItems_int {P : Program} {e : TypeId} {k : IntKind} (he : P.plainKey e = true) (hu : P.underlying e = some (.int k)) (d n : Nat) (xs ys : Array Value) (f g : Nat → Int)
    (hx : ∀ i, i < n → xs[i]? = some (.int k (f i))) (hy : ∀ i, i < n → ys[i]? = some (.int k (g i))) (w : World) : ∀ is : List Nat, (∀ i ∈ is, i < n) → (Op.eqItems (d + 1) e 1 xs ys is).run P w = .ok (is.all fun i => f i == g i) w
  | [], _ => by simp [Op.eqItems]
  | i :: is, h => by
    have hi := h i (by simp)
    have ih := eqItems_int he hu d n xs ys f g hx hy w is (fun j hj => h j (by simp [hj]))
    have p1 := run_part_plain (P := P) w he (xs := xs) (off := i * 1) (v := .int k (f i)) (by simpa using hx i hi)
    have p2 := run_part_plain (P := P) w he (xs := ys) (off := i * 1) (v := .int k (g i)) (by simpa using hy i hi)
    simp only [Op.eqItems, Sem.run_bind, p1, p2, Result.andThen_ok, run_equalIn_int w d e k k (f i) (g i) hu]
    by_cases hfg : f i = g i
    · simp [hfg, ih]
    · simp [hfg]
/-- two arrays of numbers -/
theorem run_eql_ints {P : Program} {t e : TypeId} {k : IntKind} {n : Nat} {info : TypeInfo} (ht : P.underlying t = some (.array n e)) (hi : P.info? e = some info) (hc : P.cellsOf e = 1) (he : P.plainKey e = true) (hu : P.underlying e = some (.int k)) (xs ys : Array Value) (f g : Nat → Int)
    (hx : ∀ i, i < n → xs[i]? = some (.int k (f i))) (hy : ∀ i, i < n → ys[i]? = some (.int k (g i))) (w : World) : (binOp .eql t (.agg xs) (.agg ys)).run P w = .ok (.bool ((List.range n).all fun i => f i == g i)) w := by
  rw [run_eql_struct]
  rw [run_equalIn_array w 9999 xs ys ht hi, hc, eqItems_int he hu 9998 n xs ys f g hx hy w _ (by simp)]
  rfl
end Go.Proofs.Ytgcldgchhdjnhaa
